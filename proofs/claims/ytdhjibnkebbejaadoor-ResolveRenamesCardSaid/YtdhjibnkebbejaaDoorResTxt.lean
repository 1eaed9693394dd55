/-
  What the law's function texted returns: the symbols with the text behind their names, in rows of their own. Condition: names and text that may be joined.
-/
import Derived.Test.YtdhjibnkebbejaaDoorResNamed
import Derived.Test.YtdhjibnkebbejaaDoorResLawW
import Derived.Test.YtdhjibnkebbejaaDoorResNames
namespace Go.Proofs.YtdhjibnkebbejaaDoor.Rs
open Go.RowKit Mem Vw
set_option linter.unusedVariables false
set_option linter.unusedSimpArgs false

def csv2 (p : ClauseSym × Value) : List Value := csymv p.1 p.2
/-- The five rows of the symbols that are made. -/
def trows (par : List Bytes) (rol : List (Bytes × Int)) (uni : List Unit_) (act : List ActSym) (cla : List (ClauseSym × Value)) (H : RH) : List OR :=
  [⟨9, 1, H.par, par.length, par.flatMap fun x => [sv x]⟩, ⟨59, 2, H.rol, rol.length, rol.flatMap rolev⟩, ⟨61, 5, H.uni, uni.length, uni.flatMap unitv⟩, ⟨65, 9, H.act, act.length, act.flatMap asymv⟩, ⟨71, 24, H.cla, cla.length, cla.flatMap csv2⟩]
structure TSt (B tb : Nat) (src : Source) (wk : List Bool) (H0 : RH) (u : World) (par : List Bytes) (rol : List (Bytes × Int)) (uni : List Unit_) (act : List ActSym) (cla : List (ClauseSym × Value)) (H : RH) (wr : World) : Prop where
  rows : ORs B wr (trows par rol uni act cla H)
  tbk : wr.heap[tb]? = some (.cells (symc src wk H).toArray 39 (0, 0))
  hol : H.hol = H0.hol
  fr : Fr (fun k => k = tb) u wr
theorem rows_grow {B tb : Nat} {u wr wa wc : World} {l : List OR} {kx : Nat} {r : OR} {i gn cn : Nat} {x : Value} {xs : List Value} (h : ORs B wr l) (hfr : Fr (fun k => k = tb) u wr) (hB : u.heap.size = B) (ht : tb < B) (hwa : Fr (fun _ => False) wr wa) (hk : l[kx]? = some r)
    (g1 : wc.ownsRow B r.e r.size (.slice (some ⟨gn, 0, none⟩) (r.n + 1) cn) (r.n + 1) xs) (g2 : wa.grownBy wc r.v.ownBlock) (g3 : r.v.ownBlock = some gn ∨ gn = wa.heap.size) : ORs B (wc.setCell ⟨tb, i, none⟩ x) (l.set kx ⟨r.e, r.size, .slice (some ⟨gn, 0, none⟩) (r.n + 1) cn, r.n + 1, xs⟩) := by
  have h1 : ORs B wa l := h.fr hwa (fun _ _ _ h => h)
  have h2 : ORs B wc (l.set kx ⟨r.e, r.size, .slice (some ⟨gn, 0, none⟩) (r.n + 1) cn, r.n + 1, xs⟩) := h1.app hk g2 g1 (fun g hg => by
    have : gn = g := by simpa [Value.ownBlock] using hg
    subst this
    rcases g3 with g3 | g3
    · exact .inl g3
    · exact .inr (by omega))
  have hs : Fr (fun k => k = tb) wc (wc.setCell ⟨tb, i, none⟩ x) := (Fr.refl (fun k => k = tb) wc).setCell (p := ⟨tb, i, none⟩) (.inl rfl) _
  exact h2.fr hs (fun j hj _ e => by omega)
theorem TSt.fr2 {B tb : Nat} {src : Source} {wk : List Bool} {H0 : RH} {u wr wa wc : World} {par : List Bytes} {rol : List (Bytes × Int)} {uni : List Unit_} {act : List ActSym} {cla : List (ClauseSym × Value)} {H : RH} (h : TSt B tb src wk H0 u par rol uni act cla H wr) (hB : u.heap.size = B) (hwa : Fr (fun _ => False) wr wa) {row : Option Nat} (g2 : wa.grownBy wc row) (hrow : ∀ k, row = some k → B ≤ k) (i : Nat) (x : Value) :
    Fr (fun k => k = tb) u (wc.setCell ⟨tb, i, none⟩ x) :=
  ((h.fr.trans' hwa (fun _ _ h => h.elim)).grown g2 (fun k hk => .inr (by have := hrow k hk; omega))).trans ((Fr.refl (fun k => k = tb) wc).setCell (p := ⟨tb, i, none⟩) (.inl rfl) _)
theorem TSt.o_par {B tb : Nat} {src : Source} {wk : List Bool} {H0 : RH} {u wr : World} {par : List Bytes} {rol : List (Bytes × Int)} {uni : List Unit_} {act : List ActSym} {cla : List (ClauseSym × Value)} {H : RH} (h : TSt B tb src wk H0 u par rol uni act cla H wr) : wr.ownsRow B 9 1 H.par par.length (par.flatMap (fun x => [sv x])) :=
  h.rows.ok ⟨9, 1, H.par, par.length, par.flatMap (fun x => [sv x])⟩ (by simp [trows])
theorem TSt.par {B tb : Nat} {src : Source} {wk : List Bool} {H0 : RH} {u wr wa wc : World} {par : List Bytes} {rol : List (Bytes × Int)} {uni : List Unit_} {act : List ActSym} {cla : List (ClauseSym × Value)} {H : RH} {x : Bytes} {gn cn : Nat} (h : TSt B tb src wk H0 u par rol uni act cla H wr) (hB : u.heap.size = B) (ht : tb < B) (hwa : Fr (fun _ => False) wr wa)
    (g1 : wc.ownsRow B 9 1 (.slice (some ⟨gn, 0, none⟩) (par.length + 1) cn) (par.length + 1) (par.flatMap (fun x => [sv x]) ++ [sv x])) (g2 : wa.grownBy wc H.par.ownBlock) (g3 : H.par.ownBlock = some gn ∨ gn = wa.heap.size) :
    TSt B tb src wk H0 u (par ++ [x]) rol uni act cla { H with par := .slice (some ⟨gn, 0, none⟩) (par.length + 1) cn } (wc.setCell ⟨tb, 13, none⟩ (.slice (some ⟨gn, 0, none⟩) (par.length + 1) cn)) := by
  have hok := h.o_par
  have hlt := own_lt hok
  refine ⟨?_, ?_, h.hol, h.fr2 hB hwa g2 (fun k hk => (hlt k hk).1) _ _⟩
  · have := rows_grow h.rows (i := 13) (x := .slice (some ⟨gn, 0, none⟩) (par.length + 1) cn) (kx := 0) h.fr hB ht hwa rfl g1 g2 g3
    have e1 : (par ++ [x]).length = par.length + 1 := by simp
    have e2 : (par ++ [x]).flatMap (fun x => [sv x]) = par.flatMap (fun x => [sv x]) ++ [sv x] := by simp
    unfold trows
    rw [e1, e2]
    exact this
  · have hb := (Fr.of_grown g2).blk (hwa.blk h.tbk (fun h => h)) (fun h => by have := hlt _ h; omega)
    exact (blk_set hb 13 _).trans rfl
theorem TSt.o_rol {B tb : Nat} {src : Source} {wk : List Bool} {H0 : RH} {u wr : World} {par : List Bytes} {rol : List (Bytes × Int)} {uni : List Unit_} {act : List ActSym} {cla : List (ClauseSym × Value)} {H : RH} (h : TSt B tb src wk H0 u par rol uni act cla H wr) : wr.ownsRow B 59 2 H.rol rol.length (rol.flatMap (rolev)) :=
  h.rows.ok ⟨59, 2, H.rol, rol.length, rol.flatMap (rolev)⟩ (by simp [trows])
theorem TSt.rol {B tb : Nat} {src : Source} {wk : List Bool} {H0 : RH} {u wr wa wc : World} {par : List Bytes} {rol : List (Bytes × Int)} {uni : List Unit_} {act : List ActSym} {cla : List (ClauseSym × Value)} {H : RH} {x : Bytes × Int} {gn cn : Nat} (h : TSt B tb src wk H0 u par rol uni act cla H wr) (hB : u.heap.size = B) (ht : tb < B) (hwa : Fr (fun _ => False) wr wa)
    (g1 : wc.ownsRow B 59 2 (.slice (some ⟨gn, 0, none⟩) (rol.length + 1) cn) (rol.length + 1) (rol.flatMap (rolev) ++ rolev x)) (g2 : wa.grownBy wc H.rol.ownBlock) (g3 : H.rol.ownBlock = some gn ∨ gn = wa.heap.size) :
    TSt B tb src wk H0 u par (rol ++ [x]) uni act cla { H with rol := .slice (some ⟨gn, 0, none⟩) (rol.length + 1) cn } (wc.setCell ⟨tb, 14, none⟩ (.slice (some ⟨gn, 0, none⟩) (rol.length + 1) cn)) := by
  have hok := h.o_rol
  have hlt := own_lt hok
  refine ⟨?_, ?_, h.hol, h.fr2 hB hwa g2 (fun k hk => (hlt k hk).1) _ _⟩
  · have := rows_grow h.rows (i := 14) (x := .slice (some ⟨gn, 0, none⟩) (rol.length + 1) cn) (kx := 1) h.fr hB ht hwa rfl g1 g2 g3
    have e1 : (rol ++ [x]).length = rol.length + 1 := by simp
    have e2 : (rol ++ [x]).flatMap (rolev) = rol.flatMap (rolev) ++ rolev x := by simp
    unfold trows
    rw [e1, e2]
    exact this
  · have hb := (Fr.of_grown g2).blk (hwa.blk h.tbk (fun h => h)) (fun h => by have := hlt _ h; omega)
    exact (blk_set hb 14 _).trans rfl
theorem TSt.o_uni {B tb : Nat} {src : Source} {wk : List Bool} {H0 : RH} {u wr : World} {par : List Bytes} {rol : List (Bytes × Int)} {uni : List Unit_} {act : List ActSym} {cla : List (ClauseSym × Value)} {H : RH} (h : TSt B tb src wk H0 u par rol uni act cla H wr) : wr.ownsRow B 61 5 H.uni uni.length (uni.flatMap (unitv)) :=
  h.rows.ok ⟨61, 5, H.uni, uni.length, uni.flatMap (unitv)⟩ (by simp [trows])
theorem TSt.uni {B tb : Nat} {src : Source} {wk : List Bool} {H0 : RH} {u wr wa wc : World} {par : List Bytes} {rol : List (Bytes × Int)} {uni : List Unit_} {act : List ActSym} {cla : List (ClauseSym × Value)} {H : RH} {x : Unit_} {gn cn : Nat} (h : TSt B tb src wk H0 u par rol uni act cla H wr) (hB : u.heap.size = B) (ht : tb < B) (hwa : Fr (fun _ => False) wr wa)
    (g1 : wc.ownsRow B 61 5 (.slice (some ⟨gn, 0, none⟩) (uni.length + 1) cn) (uni.length + 1) (uni.flatMap (unitv) ++ unitv x)) (g2 : wa.grownBy wc H.uni.ownBlock) (g3 : H.uni.ownBlock = some gn ∨ gn = wa.heap.size) :
    TSt B tb src wk H0 u par rol (uni ++ [x]) act cla { H with uni := .slice (some ⟨gn, 0, none⟩) (uni.length + 1) cn } (wc.setCell ⟨tb, 15, none⟩ (.slice (some ⟨gn, 0, none⟩) (uni.length + 1) cn)) := by
  have hok := h.o_uni
  have hlt := own_lt hok
  refine ⟨?_, ?_, h.hol, h.fr2 hB hwa g2 (fun k hk => (hlt k hk).1) _ _⟩
  · have := rows_grow h.rows (i := 15) (x := .slice (some ⟨gn, 0, none⟩) (uni.length + 1) cn) (kx := 2) h.fr hB ht hwa rfl g1 g2 g3
    have e1 : (uni ++ [x]).length = uni.length + 1 := by simp
    have e2 : (uni ++ [x]).flatMap (unitv) = uni.flatMap (unitv) ++ unitv x := by simp
    unfold trows
    rw [e1, e2]
    exact this
  · have hb := (Fr.of_grown g2).blk (hwa.blk h.tbk (fun h => h)) (fun h => by have := hlt _ h; omega)
    exact (blk_set hb 15 _).trans rfl
theorem TSt.o_act {B tb : Nat} {src : Source} {wk : List Bool} {H0 : RH} {u wr : World} {par : List Bytes} {rol : List (Bytes × Int)} {uni : List Unit_} {act : List ActSym} {cla : List (ClauseSym × Value)} {H : RH} (h : TSt B tb src wk H0 u par rol uni act cla H wr) : wr.ownsRow B 65 9 H.act act.length (act.flatMap (asymv)) :=
  h.rows.ok ⟨65, 9, H.act, act.length, act.flatMap (asymv)⟩ (by simp [trows])
theorem TSt.act {B tb : Nat} {src : Source} {wk : List Bool} {H0 : RH} {u wr wa wc : World} {par : List Bytes} {rol : List (Bytes × Int)} {uni : List Unit_} {act : List ActSym} {cla : List (ClauseSym × Value)} {H : RH} {x : ActSym} {gn cn : Nat} (h : TSt B tb src wk H0 u par rol uni act cla H wr) (hB : u.heap.size = B) (ht : tb < B) (hwa : Fr (fun _ => False) wr wa)
    (g1 : wc.ownsRow B 65 9 (.slice (some ⟨gn, 0, none⟩) (act.length + 1) cn) (act.length + 1) (act.flatMap (asymv) ++ asymv x)) (g2 : wa.grownBy wc H.act.ownBlock) (g3 : H.act.ownBlock = some gn ∨ gn = wa.heap.size) :
    TSt B tb src wk H0 u par rol uni (act ++ [x]) cla { H with act := .slice (some ⟨gn, 0, none⟩) (act.length + 1) cn } (wc.setCell ⟨tb, 16, none⟩ (.slice (some ⟨gn, 0, none⟩) (act.length + 1) cn)) := by
  have hok := h.o_act
  have hlt := own_lt hok
  refine ⟨?_, ?_, h.hol, h.fr2 hB hwa g2 (fun k hk => (hlt k hk).1) _ _⟩
  · have := rows_grow h.rows (i := 16) (x := .slice (some ⟨gn, 0, none⟩) (act.length + 1) cn) (kx := 3) h.fr hB ht hwa rfl g1 g2 g3
    have e1 : (act ++ [x]).length = act.length + 1 := by simp
    have e2 : (act ++ [x]).flatMap (asymv) = act.flatMap (asymv) ++ asymv x := by simp
    unfold trows
    rw [e1, e2]
    exact this
  · have hb := (Fr.of_grown g2).blk (hwa.blk h.tbk (fun h => h)) (fun h => by have := hlt _ h; omega)
    exact (blk_set hb 16 _).trans rfl
theorem TSt.o_cla {B tb : Nat} {src : Source} {wk : List Bool} {H0 : RH} {u wr : World} {par : List Bytes} {rol : List (Bytes × Int)} {uni : List Unit_} {act : List ActSym} {cla : List (ClauseSym × Value)} {H : RH} (h : TSt B tb src wk H0 u par rol uni act cla H wr) : wr.ownsRow B 71 24 H.cla cla.length (cla.flatMap (csv2)) :=
  h.rows.ok ⟨71, 24, H.cla, cla.length, cla.flatMap (csv2)⟩ (by simp [trows])
theorem TSt.cla {B tb : Nat} {src : Source} {wk : List Bool} {H0 : RH} {u wr wa wc : World} {par : List Bytes} {rol : List (Bytes × Int)} {uni : List Unit_} {act : List ActSym} {cla : List (ClauseSym × Value)} {H : RH} {x : ClauseSym × Value} {gn cn : Nat} (h : TSt B tb src wk H0 u par rol uni act cla H wr) (hB : u.heap.size = B) (ht : tb < B) (hwa : Fr (fun _ => False) wr wa)
    (g1 : wc.ownsRow B 71 24 (.slice (some ⟨gn, 0, none⟩) (cla.length + 1) cn) (cla.length + 1) (cla.flatMap (csv2) ++ csv2 x)) (g2 : wa.grownBy wc H.cla.ownBlock) (g3 : H.cla.ownBlock = some gn ∨ gn = wa.heap.size) :
    TSt B tb src wk H0 u par rol uni act (cla ++ [x]) { H with cla := .slice (some ⟨gn, 0, none⟩) (cla.length + 1) cn } (wc.setCell ⟨tb, 17, none⟩ (.slice (some ⟨gn, 0, none⟩) (cla.length + 1) cn)) := by
  have hok := h.o_cla
  have hlt := own_lt hok
  refine ⟨?_, ?_, h.hol, h.fr2 hB hwa g2 (fun k hk => (hlt k hk).1) _ _⟩
  · have := rows_grow h.rows (i := 17) (x := .slice (some ⟨gn, 0, none⟩) (cla.length + 1) cn) (kx := 4) h.fr hB ht hwa rfl g1 g2 g3
    have e1 : (cla ++ [x]).length = cla.length + 1 := by simp
    have e2 : (cla ++ [x]).flatMap (csv2) = cla.flatMap (csv2) ++ csv2 x := by simp
    unfold trows
    rw [e1, e2]
    exact this
  · have hb := (Fr.of_grown g2).blk (hwa.blk h.tbk (fun h => h)) (fun h => by have := hlt _ h; omega)
    exact (blk_set hb 17 _).trans rfl
theorem bsl_role (n : Bytes) (i : Int) (w : World) : (Instr.buildSlice 34 1 #[(0, .agg #[.string ⟨n.toArray⟩, .int .i64 i])]).run Tryd.prog w = .ok (.slice (some ⟨w.heap.size, 0, none⟩) 1 1) (w.alloc (.cells #[.string ⟨n.toArray⟩, .int .i64 i] 59)) := by kernel_rfl
theorem bsl_unit (x : Unit_) (w : World) : (Instr.buildSlice 35 1 #[(0, .agg (unitv x).toArray)]).run Tryd.prog w = .ok (.slice (some ⟨w.heap.size, 0, none⟩) 1 1) (w.alloc (.cells (unitv x).toArray 61)) := by kernel_rfl
theorem bsl_act (x : ActSym) (w : World) : (Instr.buildSlice 36 1 #[(0, .agg (asymv x).toArray)]).run Tryd.prog w = .ok (.slice (some ⟨w.heap.size, 0, none⟩) 1 1) (w.alloc (.cells (asymv x).toArray 65)) := by kernel_rfl
theorem bsl_cla0 (c : ClauseSym) (A : Option Addr) (n m : Nat) (w : World) : (Instr.buildSlice 37 1 #[(0, .agg (csv2 (c, .slice A n m)).toArray)]).run Tryd.prog w = .ok (.slice (some ⟨w.heap.size, 0, none⟩) 1 1) (w.alloc (.cells (csv2 (c, .slice A n m)).toArray 71)) := by kernel_rfl
theorem bsl_cla (p : ClauseSym × Value) (h : IsSlice p.2) (w : World) : (Instr.buildSlice 37 1 #[(0, .agg (csv2 p).toArray)]).run Tryd.prog w = .ok (.slice (some ⟨w.heap.size, 0, none⟩) 1 1) (w.alloc (.cells (csv2 p).toArray 71)) := by
  obtain ⟨c, st⟩ := p
  obtain ⟨A, n, m, rfl⟩ := h
  exact bsl_cla0 ..
theorem one_unit (x : Unit_) : ∀ u ∈ unitv x, u.oneCell' = true := by simp [unitv, sv, nv, Value.oneCell']
theorem one_act (x : ActSym) : ∀ u ∈ asymv x, u.oneCell' = true := by simp [asymv, actv, sv, nv, Value.oneCell']
theorem one_cla (p : ClauseSym × Value) (h : IsSlice p.2) : ∀ u ∈ csv2 p, u.oneCell' = true := by
  obtain ⟨c, st⟩ := p
  obtain ⟨A, n, m, rfl⟩ := h
  simp [csv2, csymv, clv, spanc, sv, nv, Value.oneCell']
theorem info_units (x : Unit_) : (Tryd.prog.info? 61).map (·.size) = some (unitv x).length := by kernel_rfl
theorem info_acts (x : ActSym) : (Tryd.prog.info? 65).map (·.size) = some (asymv x).length := by kernel_rfl
theorem info_clas (x : ClauseSym × Value) : (Tryd.prog.info? 71).map (·.size) = some (csv2 x).length := by kernel_rfl
theorem info_unitsa (x : Unit_) : (Tryd.prog.info? 61).map (·.size) = some (unitv x).toArray.size := by kernel_rfl
theorem info_actsa (x : ActSym) : (Tryd.prog.info? 65).map (·.size) = some (asymv x).toArray.size := by kernel_rfl
theorem info_clasa (x : ClauseSym × Value) : (Tryd.prog.info? 71).map (·.size) = some (csv2 x).toArray.size := by kernel_rfl
def tC (t : Bytes) (p : ClauseSym × Value) : ClauseSym × Value := (tCla t p.1, p.2)
/-- All names are short. -/
structure NamesB (s : Sy) : Prop where
  par : ∀ x ∈ s.parties, x.length ≤ 1000000
  rol : ∀ x ∈ s.roles, x.1.length ≤ 1000000
  uni : ∀ x ∈ s.units, x.name.length ≤ 1000000
  act : ∀ x ∈ s.acts, x.name.length ≤ 1000000
  cla : ∀ x ∈ s.clauses, x.name.length ≤ 1000000
def TR_par (B tb : Nat) (src : Source) (wk : List Bool) (H0 : RH) (u : World) (t : Bytes) (s : Sy) (cl : List (ClauseSym × Value)) (ki : Value) (wr : World) : Prop := ∃ k : Nat, ki = .int .i64 (k : Int) ∧ k ≤ s.parties.length ∧ ∃ Hn, Hid (TSt B tb src wk H0 u ((s.parties.take k).map (nm t)) [] [] [] [] Hn wr)
def TR_rol (B tb : Nat) (src : Source) (wk : List Bool) (H0 : RH) (u : World) (t : Bytes) (s : Sy) (cl : List (ClauseSym × Value)) (ki : Value) (wr : World) : Prop := ∃ k : Nat, ki = .int .i64 (k : Int) ∧ k ≤ s.roles.length ∧ ∃ Hn, Hid (TSt B tb src wk H0 u (s.parties.map (nm t)) ((s.roles.take k).map (tRole t)) [] [] [] Hn wr)
def TR_uni (B tb : Nat) (src : Source) (wk : List Bool) (H0 : RH) (u : World) (t : Bytes) (s : Sy) (cl : List (ClauseSym × Value)) (ki : Value) (wr : World) : Prop := ∃ k : Nat, ki = .int .i64 (k : Int) ∧ k ≤ s.units.length ∧ ∃ Hn, Hid (TSt B tb src wk H0 u (s.parties.map (nm t)) (s.roles.map (tRole t)) ((s.units.take k).map (tUnit t)) [] [] Hn wr)
def TR_act (B tb : Nat) (src : Source) (wk : List Bool) (H0 : RH) (u : World) (t : Bytes) (s : Sy) (cl : List (ClauseSym × Value)) (ki : Value) (wr : World) : Prop := ∃ k : Nat, ki = .int .i64 (k : Int) ∧ k ≤ s.acts.length ∧ ∃ Hn, Hid (TSt B tb src wk H0 u (s.parties.map (nm t)) (s.roles.map (tRole t)) (s.units.map (tUnit t)) ((s.acts.take k).map (tAct t)) [] Hn wr)
def TR_cla (B tb : Nat) (src : Source) (wk : List Bool) (H0 : RH) (u : World) (t : Bytes) (s : Sy) (cl : List (ClauseSym × Value)) (ki : Value) (wr : World) : Prop := ∃ k : Nat, ki = .int .i64 (k : Int) ∧ k ≤ cl.length ∧ ∃ Hn, Hid (TSt B tb src wk H0 u (s.parties.map (nm t)) (s.roles.map (tRole t)) (s.units.map (tUnit t)) (s.acts.map (tAct t)) ((cl.take k).map (tC t)) Hn wr)
set_option maxRecDepth 100000 in
set_option maxHeartbeats 8000000 in
theorem texted_any (src : Source) (s : Sy) (H : RH) (cl : List (ClauseSym × Value)) (t : Bytes) (W : World) (h : SyRows W s H cl) (hl : total s ≤ 1000000) (ht : t.length ≤ 60) (hn : NamesB s) :
    Calls Tryd.prog 22 #[.agg (symc src s.weekend H).toArray, .string ⟨t.toArray⟩] W fun e w' => ∃ H' cl', e = .returned (.agg (symc src s.weekend H').toArray) ∧ SyRows w' (txt t s) H' cl' ∧ Below W.heap.size W w' := by
  obtain ⟨wk, hwk⟩ : ∃ wk, s.weekend = wk := ⟨_, rfl⟩
  rw [hwk]
  have HSY := Lib.hid h; have HNB := Lib.hid hn; have HT := Lib.hid ht
  obtain ⟨Ah, nh, ch, eh⟩ := h.hol.form
  obtain ⟨Ap, cp, ep, _⟩ := h.par.slice
  obtain ⟨Ar, cr, er, _⟩ := h.rol.slice
  obtain ⟨Au, cu, eu, _⟩ := h.uni.slice
  obtain ⟨Aa, ca, ea, _⟩ := h.act.slice
  obtain ⟨Ac, cc, ec, _⟩ := h.cla.slice
  rw [List.length_map] at ep er eu ea ec
  have hc : cl.length = s.clauses.length := by rw [← h.cls, List.length_map]
  unfold total at hl
  rw [← hc] at hl
  obtain ⟨u0, hu0⟩ : ∃ u, (W.alloc (.cells (symc src wk H).toArray 39)).alloc (.cells #[.string ⟨#[]⟩, .int .i64 0, .int .i64 0, .int .i64 0, .int .i64 0, .bool false, .bool false, .bool false, .bool false, .bool false, .bool false, .bool false, .slice none 0 0, .slice none 0 0, .slice none 0 0, .slice none 0 0, .slice none 0 0, .slice none 0 0] 39) = u := ⟨_, rfl⟩
  have HSB0 : Hid (u0.heap[W.heap.size]? = some (.cells (symc src wk H).toArray 39 (0, 0))) := by rw [← hu0]; exact blk_alloc (blk_newn rfl) _
  have HRB0 : Hid (u0.heap[W.heap.size + 1]? = some (.cells #[.string ⟨#[]⟩, .int .i64 0, .int .i64 0, .int .i64 0, .int .i64 0, .bool false, .bool false, .bool false, .bool false, .bool false, .bool false, .bool false, .slice none 0 0, .slice none 0 0, .slice none 0 0, .slice none 0 0, .slice none 0 0, .slice none 0 0] 39 (0, 0))) := by rw [← hu0]; exact blk_newn (by simp)
  have HBW0 : Hid (Below W.heap.size W u0) := by rw [← hu0]; exact ((Below.refl _ W).alloc (Nat.le_refl _) _).alloc (by simp) _
  have hz00 : u0.heap.size = W.heap.size + 1 + 1 := by rw [← hu0]; simp
  obtain ⟨u, hu⟩ : ∃ u, u0.alloc (.cells #[.string ⟨src.name.toArray⟩, .int .i64 src.frm.y, .int .i64 src.frm.m, .int .i64 src.frm.d, .int .i64 src.days, .bool (wk[0]?.getD false), .bool (wk[1]?.getD false), .bool (wk[2]?.getD false), .bool (wk[3]?.getD false), .bool (wk[4]?.getD false), .bool (wk[5]?.getD false), .bool (wk[6]?.getD false), .slice Ah nh ch, .slice none 0 0, .slice none 0 0, .slice none 0 0, .slice none 0 0, .slice none 0 0] 39) = u := ⟨_, rfl⟩
  have HS1 : Hid (u.heap[W.heap.size]? = some (.cells (symc src wk H).toArray 39 (0, 0))) := by rw [← hu]; exact blk_alloc HSB0.out _
  have HR1 : Hid (u.heap[W.heap.size + 1]? = some (.cells #[.string ⟨#[]⟩, .int .i64 0, .int .i64 0, .int .i64 0, .int .i64 0, .bool false, .bool false, .bool false, .bool false, .bool false, .bool false, .bool false, .slice none 0 0, .slice none 0 0, .slice none 0 0, .slice none 0 0, .slice none 0 0, .slice none 0 0] 39 (0, 0))) := by rw [← hu]; exact blk_alloc HRB0.out _
  have HTBu : Hid (u.heap[W.heap.size + 1 + 1]? = some (.cells (symc src wk ⟨H.hol, Vw.nil, Vw.nil, Vw.nil, Vw.nil, Vw.nil, H.flt⟩).toArray 39 (0, 0))) := by rw [← hu, eh]; exact blk_newn hz00.symm
  have HB1 : Hid (Below W.heap.size W u) := by rw [← hu]; exact HBW0.out.alloc (by omega) _
  have HSZ : Hid (u.heap.size = W.heap.size + 3) := by show _ = _; rw [← hu]; simp [hz00]
  have HU := Lib.hid hu; have HU0 := Lib.hid hu0; have HZ00 := Lib.hid hz00
  clear hu hu0 hz00
  obtain ⟨B, hB⟩ : ∃ B, u.heap.size = B := ⟨_, rfl⟩
  have HB := Lib.hid hB; clear hB
  have HTB : Hid (W.heap.size + 1 + 1 < B) := by have h1 := HSZ.out; have h2 := HB.out; show _ < _; omega
  have HG : Hid (TSt B (W.heap.size + 1 + 1) src wk H u [] [] [] [] [] ⟨H.hol, Vw.nil, Vw.nil, Vw.nil, Vw.nil, Vw.nil, H.flt⟩ u) := by
    refine ⟨⟨fun r hr => ?_, ?_⟩, HTBu.out, rfl, Fr.refl _ u⟩
    · unfold trows at hr
      rcases hr with _ | ⟨_, hr⟩
      · exact World.ownsRow_nil _ _ _ _
      rcases hr with _ | ⟨_, hr⟩
      · exact World.ownsRow_nil _ _ _ _
      rcases hr with _ | ⟨_, hr⟩
      · exact World.ownsRow_nil _ _ _ _
      rcases hr with _ | ⟨_, hr⟩
      · exact World.ownsRow_nil _ _ _ _
      rcases hr with _ | ⟨_, hr⟩
      · exact World.ownsRow_nil _ _ _ _
      cases hr
    · unfold trows
      simp [OR.apart, Vw.nil, Value.ownBlock]
  clear HTBu HSZ
  have EP := Lib.hid ep; have ER := Lib.hid er; have EU := Lib.hid eu; have EA := Lib.hid ea; have EC := Lib.hid ec; have HCL := Lib.hid hc; have HWK := Lib.hid hwk; have EH := Lib.hid eh
  go_enter Tryd.func22, Tryd.ntmps22
  go_upto_region 1 with fail
  rw [HU0.out]
  clear ep er eu ea ec hc h hn ht hwk
  have s0 : u0.cell? ⟨W.heap.size, 0, none⟩ = some (.string ⟨src.name.toArray⟩) := (cell_of_blk HSB0.out 0).trans rfl
  have s1 : u0.cell? ⟨W.heap.size, 1, none⟩ = some (.int .i64 src.frm.y) := (cell_of_blk HSB0.out 1).trans rfl
  have s2 : u0.cell? ⟨W.heap.size, 2, none⟩ = some (.int .i64 src.frm.m) := (cell_of_blk HSB0.out 2).trans rfl
  have s3 : u0.cell? ⟨W.heap.size, 3, none⟩ = some (.int .i64 src.frm.d) := (cell_of_blk HSB0.out 3).trans rfl
  have s4 : u0.cell? ⟨W.heap.size, 4, none⟩ = some (.int .i64 src.days) := (cell_of_blk HSB0.out 4).trans rfl
  have s5 : u0.cell? ⟨W.heap.size, 5, none⟩ = some (.bool (wk[0]?.getD false)) := (cell_of_blk HSB0.out 5).trans rfl
  have s6 : u0.cell? ⟨W.heap.size, 6, none⟩ = some (.bool (wk[1]?.getD false)) := (cell_of_blk HSB0.out 6).trans rfl
  have s7 : u0.cell? ⟨W.heap.size, 7, none⟩ = some (.bool (wk[2]?.getD false)) := (cell_of_blk HSB0.out 7).trans rfl
  have s8 : u0.cell? ⟨W.heap.size, 8, none⟩ = some (.bool (wk[3]?.getD false)) := (cell_of_blk HSB0.out 8).trans rfl
  have s9 : u0.cell? ⟨W.heap.size, 9, none⟩ = some (.bool (wk[4]?.getD false)) := (cell_of_blk HSB0.out 9).trans rfl
  have s10 : u0.cell? ⟨W.heap.size, 10, none⟩ = some (.bool (wk[5]?.getD false)) := (cell_of_blk HSB0.out 10).trans rfl
  have s11 : u0.cell? ⟨W.heap.size, 11, none⟩ = some (.bool (wk[6]?.getD false)) := (cell_of_blk HSB0.out 11).trans rfl
  have s12 : u0.cell? ⟨W.heap.size, 12, none⟩ = some (H.hol) := (cell_of_blk HSB0.out 12).trans rfl
  rw [EH.out] at s12
  go_upto_region 2 with fail
  rw [HZ00.out, show u0.alloc (.cells #[.string ⟨src.name.toArray⟩, .int .i64 src.frm.y, .int .i64 src.frm.m, .int .i64 src.frm.d, .int .i64 src.days, .bool (wk[0]?.getD false), .bool (wk[1]?.getD false), .bool (wk[2]?.getD false), .bool (wk[3]?.getD false), .bool (wk[4]?.getD false), .bool (wk[5]?.getD false), .bool (wk[6]?.getD false), .slice Ah nh ch, .slice none 0 0, .slice none 0 0, .slice none 0 0, .slice none 0 0, .slice none 0 0] 39) = u from HU.out]
  clear HU HU0 s0 s1 s2 s3 s4 s5 s6 s7 s8 s9 s10 s11 s12 HSB0 HRB0 HBW0 HZ00 eh
  obtain ⟨i1, hi1, hz10, hz11, hz12⟩ := info_parts info_strN
  obtain ⟨i2, hi2, hz20, hz21, hz22⟩ := info_parts info_role
  obtain ⟨i3, hi3, hz30, hz31, hz32⟩ := info_parts info_unit
  obtain ⟨i4, hi4, hz40, hz41, hz42⟩ := info_parts info_asym
  obtain ⟨i5, hi5, hz50, hz51, hz52⟩ := info_parts info_csymz
  go_wp2_with fail
  go_loopw [6] (fun ki wr => TR_par B (W.heap.size + 1 + 1) src wk H u t s cl ki wr) (fun ki _ => s.parties.length - (intOf ki).toNat)
  case atStart => exact ⟨0, rfl, Nat.zero_le _, _, HG⟩
  case round =>
    clear HG
    obtain ⟨k, rfl, hk, Hn, HN⟩ := hrel
    have HSk : Hid (wr.heap[W.heap.size]? = some (.cells (symc src wk H).toArray 39 (0, 0))) := HN.out.fr.blk HS1.out (fun e => by omega)
    have HBk : Hid (Below W.heap.size W wr) := HB1.out.trans (HN.out.fr.below HB1.out.size (fun k h => by omega))
    have q1 : wr.cell? ⟨W.heap.size, 13, none⟩ = some (.slice Ap s.parties.length cp) := (cell_of_blk HSk.out 13).trans (congrArg some EP.out)
    have k0 : (0 : Int) ≤ (k : Int) := Int.natCast_nonneg _
    have hll : s.parties.length ≤ 1000000 := by omega
    by_cases hlt : k < s.parties.length
    · have hrow := HSY.out.par
      rw [EP.out] at hrow
      obtain ⟨gx, ox, _, hda, hgl, _, _, hat⟩ := hrow.at (by intro e; rw [List.map_eq_nil_iff] at e; rw [e] at hlt; simp at hlt)
      have hA : Ap = some ⟨gx, ox, none⟩ := by injection hda
      subst hA
      obtain ⟨x, hx⟩ : ∃ x, s.parties[k]? = some x := ⟨_, List.getElem?_eq_getElem hlt⟩
      have hxm : x ∈ s.parties := List.mem_of_getElem? hx
      have HAT : Hid (At wr gx (ox + k * 1) ([sv x])) := (show At W gx (ox + k * 1) ([sv x]) from hat k _ (by rw [List.getElem?_map, hx]; rfl)).below hgl HBk.out
      have HXK : Hid (s.parties[k]? = some x) := hx
      have HLN : Hid (x.length + t.length ≤ maxLen) := by
        have h1 : x.length ≤ 1000000 := HNB.out.par x hxm
        have h2 := HT.out
        show _ ≤ _
        simp only [maxLen]; omega
      have HQ1 := Lib.hid q1
      have HKE : Hid ((((s.parties.take k).map (nm t))).length = k) := by show _ = _; rw [List.length_map, List.length_take]; omega
      clear hat hgl hx hrow hxm
      have hk7 : k ≤ 1000000 := by omega
      have k2 : (k : Int) < (s.parties.length : Int) := by omega
      go_upto_region 5 with fail
      refine Reg.G.start (by kernel_rfl) ?_
      refine' Reg.G.pure (i := 0) (v := _) rfl (by rfl) (by kernel_rfl) (by kernel_rfl) (by kernel_rfl) (fun _ _ _ h => h) ?hyr5_0 ?rer5_0
      case hyr5_0 => exact fun w => by first | (go_simp; done) | (go_simp; with_reducible rfl)
      simp only [Act.put, List.setIfInBounds_toArray, List.set_cons_zero, List.set_cons_succ]
      refine' Reg.G.take (i := 1) (v := _) (F := (fun w => w.cell? ⟨W.heap.size + 1 + 1, 13, none⟩ = some Hn.par)) rfl (by rfl) (by kernel_rfl) (by kernel_rfl) (by kernel_rfl) (fun _ _ _ h => h) ((cell_of_blk HN.out.tbk 13).trans rfl) ?hyr5_1 ?rer5_1
      case hyr5_1 => intro w hw; first | (go_simp; done) | (go_simp; with_reducible rfl)
      simp only [Act.put, List.setIfInBounds_toArray, List.set_cons_zero, List.set_cons_succ]
      refine' Reg.G.pure (i := 2) (v := _) rfl (by rfl) (by kernel_rfl) (by kernel_rfl) (by kernel_rfl) (fun _ _ _ h => h) ?hyr5_2 ?rer5_2
      case hyr5_2 => exact fun w => by first | (go_simp; done) | (go_simp; with_reducible rfl)
      simp only [Act.put, List.setIfInBounds_toArray, List.set_cons_zero, List.set_cons_succ]
      refine' Reg.G.take (i := 3) (v := _) (F := (fun w => w.cell? ⟨W.heap.size, 13, none⟩ = some (.slice (some ⟨gx, ox, none⟩) s.parties.length cp))) rfl (by rfl) (by kernel_rfl) (by kernel_rfl) (by kernel_rfl) (fun _ _ _ h => h) (HQ1.out) ?hyr5_3 ?rer5_3
      case hyr5_3 => intro w hw; first | (go_simp; done) | (go_simp; with_reducible rfl)
      simp only [Act.put, List.setIfInBounds_toArray, List.set_cons_zero, List.set_cons_succ]
      refine' Reg.G.pure (i := 4) (v := _) rfl (by rfl) (by kernel_rfl) (by kernel_rfl) (by kernel_rfl) (fun _ _ _ h => h) ?hyr5_4 ?rer5_4
      case hyr5_4 => exact fun w => by first | (go_simp; done) | (go_simp; with_reducible rfl)
      simp only [Act.put, List.setIfInBounds_toArray, List.set_cons_zero, List.set_cons_succ]
      refine' Reg.G.pure (i := 5) (v := _) rfl (by rfl) (by kernel_rfl) (by kernel_rfl) (by kernel_rfl) (fun _ _ _ h => h) ?hyr5_5 ?rer5_5
      case hyr5_5 => exact fun w => by first | (go_simp; done) | (go_simp; with_reducible rfl)
      simp only [Act.put, List.setIfInBounds_toArray, List.set_cons_zero, List.set_cons_succ]
      refine' Reg.G.take (i := 6) (v := _) (F := (fun w => w.cell? ⟨gx, ox + k, none⟩ = some (.string ⟨x.toArray⟩))) rfl (by rfl) (by kernel_rfl) (by kernel_rfl) (by kernel_rfl) (fun _ _ _ h => h) (by have h := HAT.out.cell 0 rfl; rw [Nat.mul_one] at h; exact h) ?hyr5_6 ?rer5_6
      case hyr5_6 => intro w hw; first | (go_simp; done) | (go_simp; with_reducible rfl)
      simp only [Act.put, List.setIfInBounds_toArray, List.set_cons_zero, List.set_cons_succ]
      refine' Reg.G.pure (i := 7) (v := _) rfl (by rfl) (by kernel_rfl) (by kernel_rfl) (by kernel_rfl) (fun _ _ _ h => h) ?hyr5_7 ?rer5_7
      case hyr5_7 => exact fun w => by first | (go_simp; done) | (go_simp; with_reducible rfl)
      simp only [Act.put, List.setIfInBounds_toArray, List.set_cons_zero, List.set_cons_succ]
      refine Reg.G.step (j := 8) (m := [false, false, true]) [6, 3, 1] rfl (by kernel_rfl) rfl (by kernel_rfl) (fun K hK => ?_)
      -- Op.call { callee := Callee.value (func 39), args := #[t36, t37], argTypes := #[9, 9] }
      go_simp
      refine (named_any x t wr.drew HLN.out).mono ?_
      rintro e w1 ⟨rfl, hw1⟩
      rw [hw1]
      have HQT : Hid (wr.cell? ⟨W.heap.size + 1 + 1, 13, none⟩ = some Hn.par) := (cell_of_blk HN.out.tbk 13).trans rfl
      refine hK.out _ _ ⟨HQT.out, trivial⟩ ?_
      clear hK K
      simp only [Act.put, List.setIfInBounds_toArray, List.set_cons_zero, List.set_cons_succ, Reg.Kept]
      refine Reg.G.step (j := 9) (m := [true]) [1] rfl (by kernel_rfl) rfl (by kernel_rfl) (fun K hK => ?_)
      -- Op.buildSlice 33 1 #[(0, t38)]
      rw [if_pos (by rfl)]
      refine wp_builtT (nm t x) _ rfl (by rfl) ?_
      obtain ⟨wa, hwa⟩ : ∃ v, (wr.drew).alloc (.cells [.string ⟨(nm t x).toArray⟩].toArray 9) = v := ⟨_, rfl⟩
      rw [show (wr.drew).alloc (.cells #[.string ⟨(nm t x).toArray⟩] 9) = wa from hwa]
      have HFA : Hid (Fr (fun _ => False) wr wa) := by rw [← hwa]; exact (Fr.refl _ wr).drew.alloc _
      have HOA : Hid (wa.ownsRow B 9 1 Hn.par k (((s.parties.take k).map (nm t)).flatMap (fun x => [sv x]))) := by
        have h := own_fr HN.out.o_par HFA.out (fun _ _ _ h => h)
        rw [HKE.out] at h; exact h
      have HNA : Hid (∀ j u, ([.string ⟨(nm t x).toArray⟩] : List Value)[j]? = some u → wa.cell? ((⟨wr.heap.size, 0, none⟩ : Addr).add j) = some u) := by rw [← hwa]; exact World.news_of_block (cs := #[.string ⟨(nm t x).toArray⟩]) (t := 9) (fr := (0, 0)) (heap_alloc_new wr.drew _)
      have HSA : Hid (wa.heap.size = wr.heap.size + 1) := by show _ = _; rw [← hwa]; simp
      clear hwa
      refine hK.out _ _ ⟨(cell_of_blk (HFA.out.blk HN.out.tbk (fun h => h)) 13).trans rfl, trivial⟩ ?_
      clear hK K
      simp only [Act.put, List.setIfInBounds_toArray, List.set_cons_zero, List.set_cons_succ, Reg.Kept]
      refine Reg.G.step (j := 10) (m := [false]) [1] rfl (by kernel_rfl) rfl (by kernel_rfl) (fun K hK => ?_)
      -- Op.call { callee := Callee.builtin Builtin.append, args := #[t31, t39], argTypes := #[33, 33] }
      rw [if_pos (by rfl)]
      refine wp_append_lies wa (.tmp 31) (.tmp 39) 33 rfl B 9 i1 _ 1 16 Tryd.underlying33 hi1 hz10 hz11 hz12 rfl (by decide) Hn.par k (((s.parties.take k).map (nm t)).flatMap (fun x => [sv x])) (by rfl) HOA.out ⟨wr.heap.size, 0, none⟩ 1 1 [.string ⟨(nm t x).toArray⟩] (by rfl) rfl HNA.out (by simp [Value.oneCell']) (by decide) (by simp only [maxLen]; omega) (by omega) (by have h1 := HN.out.fr.size; have h2 := HSA.out; have h3 := HB.out; omega) (wr.heap.size + 1) HSA.out ?_
      intro gn cn wc g1 g2 g3 _
      have HNX : Hid (TSt B (W.heap.size + 1 + 1) src wk H u ((s.parties.take k).map (nm t) ++ [nm t x]) [] [] [] [] { Hn with par := .slice (some ⟨gn, 0, none⟩) (k + 1) cn } (wc.setCell ⟨W.heap.size + 1 + 1, 13, none⟩ (.slice (some ⟨gn, 0, none⟩) (k + 1) cn))) := by
        have h := HN.out.par (x := nm t x) (gn := gn) (cn := cn) HB.out HTB.out HFA.out (by rw [HKE.out]; exact g1) g2 (by rw [HSA.out]; exact g3)
        rw [HKE.out] at h
        exact h
      have HTC : Hid (wc.heap[W.heap.size + 1 + 1]? = some (.cells (symc src wk Hn).toArray 39 (0, 0))) := (Fr.of_grown g2).blk (HFA.out.blk HN.out.tbk (fun h => h)) (fun h => by have h1 := (own_lt HOA.out _ h).1; have h2 := HTB.out; omega)
      clear g1 g2 g3
      refine hK.out _ _ trivial ?_
      clear hK K
      simp only [Act.put, List.setIfInBounds_toArray, List.set_cons_zero, List.set_cons_succ, Reg.Kept]
      refine' Reg.G.pure (i := 11) (v := _) rfl (by rfl) (by kernel_rfl) (by kernel_rfl) (by kernel_rfl) (fun _ _ _ h => h) ?hyr5_11 ?rer5_11
      case hyr5_11 => exact fun w => by first | (go_simp; done) | (go_simp; with_reducible rfl)
      simp only [Act.put, List.setIfInBounds_toArray, List.set_cons_zero, List.set_cons_succ]
      refine Reg.G.step (j := 12) (m := []) [] rfl (by kernel_rfl) rfl (by kernel_rfl) (fun K hK => ?_)
      -- Op.store 33 (t41) (t40)
      have k5 : wc.cell? ⟨W.heap.size + 1 + 1, 13, none⟩ = some Hn.par := (cell_of_blk HTC.out 13).trans rfl
      have f5 : wc.frozen? ⟨W.heap.size + 1 + 1, 13, none⟩ = false := froz_of_blk HTC.out 13
      go_simp
      clear k5 f5
      refine hK.out _ _ trivial ?_
      clear hK K
      simp only [Act.put, List.setIfInBounds_toArray, List.set_cons_zero, List.set_cons_succ, Reg.Kept]
      refine Reg.G.done (by kernel_rfl) ?_
      go_wp2_with fail
      go_roundw
      case rel => exact ⟨k + 1, by go_num, hlt, _, by rw [List.take_add_one, HXK.out, List.map_append]; exact HNX.out⟩
      case measure => simp [intOf]; omega
    · have k9 : ¬ ((k : Int) < (s.parties.length : Int)) := by omega
      go_upto_region 6 with fail
      clear k9 q1
      have hke : k = s.parties.length := by omega
      have HG : Hid (TSt B (W.heap.size + 1 + 1) src wk H u (s.parties.map (nm t)) [] [] [] [] Hn wr) := by
        have h := HN.out
        rw [hke, List.take_of_length_le (Nat.le_refl _)] at h
        exact h
      clear hke HSk HBk k0 hk HN hlt hll
      obtain ⟨H2, rfl⟩ : ∃ h, h = Hn := ⟨_, rfl⟩
      go_wp2_with fail
      go_loopw [7] (fun ki wr => TR_rol B (W.heap.size + 1 + 1) src wk H u t s cl ki wr) (fun ki _ => s.roles.length - (intOf ki).toNat)
      case atStart => exact ⟨0, rfl, Nat.zero_le _, _, HG⟩
      case round =>
        clear HG
        obtain ⟨k, rfl, hk, Hn, HN⟩ := hrel
        have HSk : Hid (wr.heap[W.heap.size]? = some (.cells (symc src wk H).toArray 39 (0, 0))) := HN.out.fr.blk HS1.out (fun e => by omega)
        have HBk : Hid (Below W.heap.size W wr) := HB1.out.trans (HN.out.fr.below HB1.out.size (fun k h => by omega))
        have q1 : wr.cell? ⟨W.heap.size, 14, none⟩ = some (.slice Ar s.roles.length cr) := (cell_of_blk HSk.out 14).trans (congrArg some ER.out)
        have k0 : (0 : Int) ≤ (k : Int) := Int.natCast_nonneg _
        have hll : s.roles.length ≤ 1000000 := by omega
        by_cases hlt : k < s.roles.length
        · have hrow := HSY.out.rol
          rw [ER.out] at hrow
          obtain ⟨gx, ox, _, hda, hgl, _, _, hat⟩ := hrow.at (by intro e; rw [List.map_eq_nil_iff] at e; rw [e] at hlt; simp at hlt)
          have hA : Ar = some ⟨gx, ox, none⟩ := by injection hda
          subst hA
          obtain ⟨x, hx⟩ : ∃ x, s.roles[k]? = some x := ⟨_, List.getElem?_eq_getElem hlt⟩
          have hxm : x ∈ s.roles := List.mem_of_getElem? hx
          have HAT : Hid (At wr gx (ox + k * 2) (rolev x)) := (show At W gx (ox + k * 2) (rolev x) from hat k _ (by rw [List.getElem?_map, hx]; rfl)).below hgl HBk.out
          have HXK : Hid (s.roles[k]? = some x) := hx
          have HLN : Hid (x.1.length + t.length ≤ maxLen) := by
            have h1 : x.1.length ≤ 1000000 := HNB.out.rol x hxm
            have h2 := HT.out
            show _ ≤ _
            simp only [maxLen]; omega
          have HQ1 := Lib.hid q1
          have HKE : Hid ((((s.roles.take k).map (tRole t))).length = k) := by show _ = _; rw [List.length_map, List.length_take]; omega
          clear hat hgl hx hrow hxm
          have hk7 : k ≤ 1000000 := by omega
          have k2 : (k : Int) < (s.roles.length : Int) := by omega
          go_upto_region 9 with fail
          refine Reg.G.start (by kernel_rfl) ?_
          refine' Reg.G.pure (i := 0) (v := _) rfl (by rfl) (by kernel_rfl) (by kernel_rfl) (by kernel_rfl) (fun _ _ _ h => h) ?hyr9_0 ?rer9_0
          case hyr9_0 => exact fun w => by first | (go_simp; done) | (go_simp; with_reducible rfl)
          simp only [Act.put, List.setIfInBounds_toArray, List.set_cons_zero, List.set_cons_succ]
          refine' Reg.G.take (i := 1) (v := _) (F := (fun w => w.cell? ⟨W.heap.size + 1 + 1, 14, none⟩ = some Hn.rol)) rfl (by rfl) (by kernel_rfl) (by kernel_rfl) (by kernel_rfl) (fun _ _ _ h => h) ((cell_of_blk HN.out.tbk 14).trans rfl) ?hyr9_1 ?rer9_1
          case hyr9_1 => intro w hw; first | (go_simp; done) | (go_simp; with_reducible rfl)
          simp only [Act.put, List.setIfInBounds_toArray, List.set_cons_zero, List.set_cons_succ]
          refine' Reg.G.pure (i := 2) (v := _) rfl (by rfl) (by kernel_rfl) (by kernel_rfl) (by kernel_rfl) (fun _ _ _ h => h) ?hyr9_2 ?rer9_2
          case hyr9_2 => exact fun w => by first | (go_simp; done) | (go_simp; with_reducible rfl)
          simp only [Act.put, List.setIfInBounds_toArray, List.set_cons_zero, List.set_cons_succ]
          refine' Reg.G.take (i := 3) (v := _) (F := (fun w => w.cell? ⟨W.heap.size, 14, none⟩ = some (.slice (some ⟨gx, ox, none⟩) s.roles.length cr))) rfl (by rfl) (by kernel_rfl) (by kernel_rfl) (by kernel_rfl) (fun _ _ _ h => h) (HQ1.out) ?hyr9_3 ?rer9_3
          case hyr9_3 => intro w hw; first | (go_simp; done) | (go_simp; with_reducible rfl)
          simp only [Act.put, List.setIfInBounds_toArray, List.set_cons_zero, List.set_cons_succ]
          refine' Reg.G.pure (i := 4) (v := _) rfl (by rfl) (by kernel_rfl) (by kernel_rfl) (by kernel_rfl) (fun _ _ _ h => h) ?hyr9_4 ?rer9_4
          case hyr9_4 => exact fun w => by first | (go_simp; done) | (go_simp; with_reducible rfl)
          simp only [Act.put, List.setIfInBounds_toArray, List.set_cons_zero, List.set_cons_succ]
          refine' Reg.G.pure (i := 5) (v := _) rfl (by rfl) (by kernel_rfl) (by kernel_rfl) (by kernel_rfl) (fun _ _ _ h => h) ?hyr9_5 ?rer9_5
          case hyr9_5 => exact fun w => by first | (go_simp; done) | (go_simp; with_reducible rfl)
          simp only [Act.put, List.setIfInBounds_toArray, List.set_cons_zero, List.set_cons_succ]
          refine' Reg.G.pure (i := 6) (v := _) rfl (by rfl) (by kernel_rfl) (by kernel_rfl) (by kernel_rfl) (fun _ _ _ h => h) ?hyr9_6 ?rer9_6
          case hyr9_6 => exact fun w => by first | (go_simp; done) | (go_simp; with_reducible rfl)
          simp only [Act.put, List.setIfInBounds_toArray, List.set_cons_zero, List.set_cons_succ]
          refine' Reg.G.take (i := 7) (v := _) (F := (fun w => w.cell? ⟨gx, ox + k * 2, none⟩ = some (.string ⟨x.1.toArray⟩))) rfl (by rfl) (by kernel_rfl) (by kernel_rfl) (by kernel_rfl) (fun _ _ _ h => h) (HAT.out.cell 0 rfl) ?hyr9_7 ?rer9_7
          case hyr9_7 => intro w hw; first | (go_simp; done) | (go_simp; with_reducible rfl)
          simp only [Act.put, List.setIfInBounds_toArray, List.set_cons_zero, List.set_cons_succ]
          refine' Reg.G.pure (i := 8) (v := _) rfl (by rfl) (by kernel_rfl) (by kernel_rfl) (by kernel_rfl) (fun _ _ _ h => h) ?hyr9_8 ?rer9_8
          case hyr9_8 => exact fun w => by first | (go_simp; done) | (go_simp; with_reducible rfl)
          simp only [Act.put, List.setIfInBounds_toArray, List.set_cons_zero, List.set_cons_succ]
          refine' Reg.G.pure (i := 10) (v := _) rfl (by rfl) (by kernel_rfl) (by kernel_rfl) (by kernel_rfl) (fun _ _ _ h => h) ?hyr9_10 ?rer9_10
          case hyr9_10 => exact fun w => by first | (go_simp; done) | (go_simp; with_reducible rfl)
          simp only [Act.put, List.setIfInBounds_toArray, List.set_cons_zero, List.set_cons_succ]
          refine' Reg.G.take (i := 11) (v := _) (F := (fun w => w.cell? ⟨W.heap.size, 14, none⟩ = some (.slice (some ⟨gx, ox, none⟩) s.roles.length cr))) rfl (by rfl) (by kernel_rfl) (by kernel_rfl) (by kernel_rfl) (fun _ _ _ h => h) (HQ1.out) ?hyr9_11 ?rer9_11
          case hyr9_11 => intro w hw; first | (go_simp; done) | (go_simp; with_reducible rfl)
          simp only [Act.put, List.setIfInBounds_toArray, List.set_cons_zero, List.set_cons_succ]
          refine' Reg.G.pure (i := 12) (v := _) rfl (by rfl) (by kernel_rfl) (by kernel_rfl) (by kernel_rfl) (fun _ _ _ h => h) ?hyr9_12 ?rer9_12
          case hyr9_12 => exact fun w => by first | (go_simp; done) | (go_simp; with_reducible rfl)
          simp only [Act.put, List.setIfInBounds_toArray, List.set_cons_zero, List.set_cons_succ]
          refine' Reg.G.pure (i := 13) (v := _) rfl (by rfl) (by kernel_rfl) (by kernel_rfl) (by kernel_rfl) (fun _ _ _ h => h) ?hyr9_13 ?rer9_13
          case hyr9_13 => exact fun w => by first | (go_simp; done) | (go_simp; with_reducible rfl)
          simp only [Act.put, List.setIfInBounds_toArray, List.set_cons_zero, List.set_cons_succ]
          refine' Reg.G.pure (i := 14) (v := _) rfl (by rfl) (by kernel_rfl) (by kernel_rfl) (by kernel_rfl) (fun _ _ _ h => h) ?hyr9_14 ?rer9_14
          case hyr9_14 => exact fun w => by first | (go_simp; done) | (go_simp; with_reducible rfl)
          simp only [Act.put, List.setIfInBounds_toArray, List.set_cons_zero, List.set_cons_succ]
          refine' Reg.G.take (i := 15) (v := _) (F := (fun w => w.cell? ⟨gx, ox + k * 2 + 1, none⟩ = some (.int .i64 x.2))) rfl (by rfl) (by kernel_rfl) (by kernel_rfl) (by kernel_rfl) (fun _ _ _ h => h) (HAT.out.cell 1 rfl) ?hyr9_15 ?rer9_15
          case hyr9_15 => intro w hw; first | (go_simp; done) | (go_simp; with_reducible rfl)
          simp only [Act.put, List.setIfInBounds_toArray, List.set_cons_zero, List.set_cons_succ]
          refine Reg.G.step (j := 9) (m := [true, true, false, false, true]) [15, 11, 7, 3, 1] rfl (by kernel_rfl) rfl (by kernel_rfl) (fun K hK => ?_)
          -- Op.call { callee := Callee.value (func 39), args := #[t56, t57], argTypes := #[9, 9] }
          go_simp
          refine (named_any x.1 t wr.drew HLN.out).mono ?_
          rintro e w1 ⟨rfl, hw1⟩
          rw [hw1]
          have HQT : Hid (wr.cell? ⟨W.heap.size + 1 + 1, 14, none⟩ = some Hn.rol) := (cell_of_blk HN.out.tbk 14).trans rfl
          refine hK.out _ _ ⟨HAT.out.cell 1 rfl, HQ1.out, HQT.out, trivial⟩ ?_
          clear hK K
          simp only [Act.put, List.setIfInBounds_toArray, List.set_cons_zero, List.set_cons_succ, Reg.Kept]
          refine' Reg.G.pure (i := 16) (v := _) rfl (by rfl) (by kernel_rfl) (by kernel_rfl) (by kernel_rfl) (fun _ _ _ h => h) ?hyr9_16 ?rer9_16
          case hyr9_16 => exact fun w => by first | (go_simp; done) | (go_simp; with_reducible rfl)
          simp only [Act.put, List.setIfInBounds_toArray, List.set_cons_zero, List.set_cons_succ]
          refine Reg.G.step (j := 17) (m := [false, false, true]) [15, 11, 1] rfl (by kernel_rfl) rfl (by kernel_rfl) (fun K hK => ?_)
          -- Op.buildSlice 34 1 #[(0, t65)]
          rw [if_pos (by rfl)]
          refine wp_builtS 34 1 _ rfl #[(0, .agg #[.string ⟨(nm t x.1).toArray⟩, .int .i64 x.2])] (by go_simp) _ _ (bsl_role _ _ _) ?_
          obtain ⟨wa, hwa⟩ : ∃ v, (wr.drew).alloc (.cells [.string ⟨(nm t x.1).toArray⟩, .int .i64 x.2].toArray 59) = v := ⟨_, rfl⟩
          rw [show (wr.drew).alloc (.cells #[.string ⟨(nm t x.1).toArray⟩, .int .i64 x.2] 59) = wa from hwa]
          have HFA : Hid (Fr (fun _ => False) wr wa) := by rw [← hwa]; exact (Fr.refl _ wr).drew.alloc _
          have HOA : Hid (wa.ownsRow B 59 2 Hn.rol k (((s.roles.take k).map (tRole t)).flatMap (rolev))) := by
            have h := own_fr HN.out.o_rol HFA.out (fun _ _ _ h => h)
            rw [HKE.out] at h; exact h
          have HNA : Hid (∀ j u, ([.string ⟨(nm t x.1).toArray⟩, .int .i64 x.2] : List Value)[j]? = some u → wa.cell? ((⟨wr.heap.size, 0, none⟩ : Addr).add j) = some u) := by rw [← hwa]; exact World.news_of_block (cs := #[.string ⟨(nm t x.1).toArray⟩, .int .i64 x.2]) (t := 59) (fr := (0, 0)) (heap_alloc_new wr.drew _)
          have HSA : Hid (wa.heap.size = wr.heap.size + 1) := by show _ = _; rw [← hwa]; simp
          clear hwa
          refine hK.out _ _ ⟨(cell_of_blk (HFA.out.blk HN.out.tbk (fun h => h)) 14).trans rfl, trivial⟩ ?_
          clear hK K
          simp only [Act.put, List.setIfInBounds_toArray, List.set_cons_zero, List.set_cons_succ, Reg.Kept]
          refine Reg.G.step (j := 18) (m := [false]) [1] rfl (by kernel_rfl) rfl (by kernel_rfl) (fun K hK => ?_)
          -- Op.call { callee := Callee.builtin Builtin.append, args := #[t50, t66], argTypes := #[34, 34] }
          rw [if_pos (by rfl)]
          refine wp_append_lies wa (.tmp 50) (.tmp 66) 34 rfl B 59 i2 _ 2 24 Tryd.underlying34 hi2 hz20 hz21 hz22 rfl (by decide) Hn.rol k (((s.roles.take k).map (tRole t)).flatMap (rolev)) (by rfl) HOA.out ⟨wr.heap.size, 0, none⟩ 1 1 [.string ⟨(nm t x.1).toArray⟩, .int .i64 x.2] (by rfl) rfl HNA.out (by simp [Value.oneCell']) (by decide) (by simp only [maxLen]; omega) (by omega) (by have h1 := HN.out.fr.size; have h2 := HSA.out; have h3 := HB.out; omega) (wr.heap.size + 1) HSA.out ?_
          intro gn cn wc g1 g2 g3 _
          have HNX : Hid (TSt B (W.heap.size + 1 + 1) src wk H u (s.parties.map (nm t)) ((s.roles.take k).map (tRole t) ++ [tRole t x]) [] [] [] { Hn with rol := .slice (some ⟨gn, 0, none⟩) (k + 1) cn } (wc.setCell ⟨W.heap.size + 1 + 1, 14, none⟩ (.slice (some ⟨gn, 0, none⟩) (k + 1) cn))) := by
            have h := HN.out.rol (x := tRole t x) (gn := gn) (cn := cn) HB.out HTB.out HFA.out (by rw [HKE.out]; exact g1) g2 (by rw [HSA.out]; exact g3)
            rw [HKE.out] at h
            exact h
          have HTC : Hid (wc.heap[W.heap.size + 1 + 1]? = some (.cells (symc src wk Hn).toArray 39 (0, 0))) := (Fr.of_grown g2).blk (HFA.out.blk HN.out.tbk (fun h => h)) (fun h => by have h1 := (own_lt HOA.out _ h).1; have h2 := HTB.out; omega)
          clear g1 g2 g3
          refine hK.out _ _ trivial ?_
          clear hK K
          simp only [Act.put, List.setIfInBounds_toArray, List.set_cons_zero, List.set_cons_succ, Reg.Kept]
          refine' Reg.G.pure (i := 19) (v := _) rfl (by rfl) (by kernel_rfl) (by kernel_rfl) (by kernel_rfl) (fun _ _ _ h => h) ?hyr9_19 ?rer9_19
          case hyr9_19 => exact fun w => by first | (go_simp; done) | (go_simp; with_reducible rfl)
          simp only [Act.put, List.setIfInBounds_toArray, List.set_cons_zero, List.set_cons_succ]
          refine Reg.G.step (j := 20) (m := []) [] rfl (by kernel_rfl) rfl (by kernel_rfl) (fun K hK => ?_)
          -- Op.store 34 (t68) (t67)
          have k5 : wc.cell? ⟨W.heap.size + 1 + 1, 14, none⟩ = some Hn.rol := (cell_of_blk HTC.out 14).trans rfl
          have f5 : wc.frozen? ⟨W.heap.size + 1 + 1, 14, none⟩ = false := froz_of_blk HTC.out 14
          go_simp
          clear k5 f5
          refine hK.out _ _ trivial ?_
          clear hK K
          simp only [Act.put, List.setIfInBounds_toArray, List.set_cons_zero, List.set_cons_succ, Reg.Kept]
          refine Reg.G.done (by kernel_rfl) ?_
          go_wp2_with fail
          go_roundw
          case rel => exact ⟨k + 1, by go_num, hlt, _, by rw [List.take_add_one, HXK.out, List.map_append]; exact HNX.out⟩
          case measure => simp [intOf]; omega
        · have k9 : ¬ ((k : Int) < (s.roles.length : Int)) := by omega
          go_upto_region 10 with fail
          clear k9 q1
          have hke : k = s.roles.length := by omega
          have HG : Hid (TSt B (W.heap.size + 1 + 1) src wk H u (s.parties.map (nm t)) (s.roles.map (tRole t)) [] [] [] Hn wr) := by
            have h := HN.out
            rw [hke, List.take_of_length_le (Nat.le_refl _)] at h
            exact h
          clear hke HSk HBk k0 hk HN hlt hll
          obtain ⟨H3, rfl⟩ : ∃ h, h = Hn := ⟨_, rfl⟩
          go_wp2_with fail
          go_loopw [8] (fun ki wr => TR_uni B (W.heap.size + 1 + 1) src wk H u t s cl ki wr) (fun ki _ => s.units.length - (intOf ki).toNat)
          case atStart => exact ⟨0, rfl, Nat.zero_le _, _, HG⟩
          case round =>
            clear HG
            obtain ⟨k, rfl, hk, Hn, HN⟩ := hrel
            have HSk : Hid (wr.heap[W.heap.size]? = some (.cells (symc src wk H).toArray 39 (0, 0))) := HN.out.fr.blk HS1.out (fun e => by omega)
            have HBk : Hid (Below W.heap.size W wr) := HB1.out.trans (HN.out.fr.below HB1.out.size (fun k h => by omega))
            have q1 : wr.cell? ⟨W.heap.size, 15, none⟩ = some (.slice Au s.units.length cu) := (cell_of_blk HSk.out 15).trans (congrArg some EU.out)
            have k0 : (0 : Int) ≤ (k : Int) := Int.natCast_nonneg _
            have hll : s.units.length ≤ 1000000 := by omega
            by_cases hlt : k < s.units.length
            · have hrow := HSY.out.uni
              rw [EU.out] at hrow
              obtain ⟨gx, ox, _, hda, hgl, _, _, hat⟩ := hrow.at (by intro e; rw [List.map_eq_nil_iff] at e; rw [e] at hlt; simp at hlt)
              have hA : Au = some ⟨gx, ox, none⟩ := by injection hda
              subst hA
              obtain ⟨x, hx⟩ : ∃ x, s.units[k]? = some x := ⟨_, List.getElem?_eq_getElem hlt⟩
              have hxm : x ∈ s.units := List.mem_of_getElem? hx
              have HAT : Hid (At wr gx (ox + k * 5) (unitv x)) := (show At W gx (ox + k * 5) (unitv x) from hat k _ (by rw [List.getElem?_map, hx]; rfl)).below hgl HBk.out
              have HXK : Hid (s.units[k]? = some x) := hx
              have HLN : Hid (x.name.length + t.length ≤ maxLen) := by
                have h1 : x.name.length ≤ 1000000 := HNB.out.uni x hxm
                have h2 := HT.out
                show _ ≤ _
                simp only [maxLen]; omega
              have HQ1 := Lib.hid q1
              have HKE : Hid ((((s.units.take k).map (tUnit t))).length = k) := by show _ = _; rw [List.length_map, List.length_take]; omega
              clear hat hgl hx hrow hxm
              have hk7 : k ≤ 1000000 := by omega
              have k2 : (k : Int) < (s.units.length : Int) := by omega
              go_upto_region 13 with fail
              iterate 13 go_step
              refine wpList_load_mid rfl 61 _ rfl gx (ox + k * 5) rfl (unitv x) _ HAT.out Tryd.underlying61 rfl (info_units _) ?_
              simp only [Act.put, List.setIfInBounds_toArray, List.set_cons_zero, List.set_cons_succ]
              iterate 3 go_step
              refine wpList_store_row rfl 61 _ _ rfl wr.heap.size (unitv x).toArray rfl rfl 61 _ (blk_newn rfl) (info_unitsa _) rfl (by rw [List.all_toArray]; exact List.all_eq_true.2 (one_unit x)) ?_
              simp only [Act.put, List.setIfInBounds_toArray, List.set_cons_zero, List.set_cons_succ]
              rw [World.setRow_alloc_new]
              obtain ⟨X0, hX0⟩ : ∃ X0, wr.alloc (.cells (unitv x).toArray 61) = X0 := ⟨_, rfl⟩
              rw [hX0]
              have HX0 : Hid (X0.heap[wr.heap.size]? = some (.cells (unitv x).toArray 61 (0, 0))) := by rw [← hX0]; exact blk_newn rfl
              have HW0 : Hid (Fr (fun _ => False) wr X0) := by rw [← hX0]; exact (Fr.refl _ wr).alloc _
              clear hX0 q1
              have c0 : X0.cell? ⟨wr.heap.size, 0, none⟩ = some (.string ⟨x.name.toArray⟩) := (cell_of_blk HX0.out 0).trans rfl
              have f0 : X0.frozen? ⟨wr.heap.size, 0, none⟩ = false := froz_of_blk HX0.out 0
              have HN0 := Lib.hid (named_any x.name t X0 HLN.out)
              go_wp2_with fail
              refine HN0.out.mono ?_
              rintro e wj ⟨rfl, hwj⟩
              have hwj := hwj.symm
              subst hwj
              go_upto_region 15 with fail
              obtain ⟨X1, hX⟩ : ∃ X, X0.setCell ⟨wr.heap.size, 0, none⟩ (.string ⟨(nm t x.name).toArray⟩) = X := ⟨_, rfl⟩
              rw [hX]
              have HX1 : Hid (X1.heap[wr.heap.size]? = some (.cells (unitv (tUnit t x)).toArray 61 (0, 0))) := by rw [← hX]; exact (blk_set HX0.out 0 _).trans rfl
              have HWX : Hid (Fr (fun _ => False) wr X1) := by rw [← hX]; exact HW0.out.setCell (p := ⟨wr.heap.size, 0, none⟩) (.inr (Nat.le_refl _)) _
              clear hX c0 f0 HN0 HX0 HW0
              have HBS : Hid (∀ w : World, (Instr.buildSlice 35 1 #[(0, .agg (unitv (tUnit t x)).toArray)]).run Tryd.prog w = .ok (.slice (some ⟨w.heap.size, 0, none⟩) 1 1) (w.alloc (.cells (unitv (tUnit t x)).toArray 61))) := fun w => bsl_unit (tUnit t x) w
              have HON : Hid (∀ u ∈ unitv (tUnit t x), u.oneCell' = true) := one_unit (tUnit t x)
              have HIF : Hid ((Tryd.prog.info? 61).map (·.size) = some (unitv (tUnit t x)).toArray.size) := info_unitsa (tUnit t x)
              have HLE : Hid ((unitv (tUnit t x)).length = 1 * 5) := rfl
              obtain ⟨cs, hcs⟩ : ∃ cs, unitv (tUnit t x) = cs := ⟨_, rfl⟩
              have HCS := Lib.hid hcs
              rw [hcs] at HX1 HBS HON HIF HLE
              clear hcs
              have HTX : Hid (X1.heap[W.heap.size + 1 + 1]? = some (.cells (symc src wk Hn).toArray 39 (0, 0))) := HWX.out.blk HN.out.tbk (fun h => h)
              have q5 : X1.cell? ⟨W.heap.size + 1 + 1, 15, none⟩ = some Hn.uni := (cell_of_blk HTX.out 15).trans rfl
              iterate 7 go_step
              refine wpList_load_row rfl 61 _ rfl wr.heap.size rfl 61 cs.toArray (0, 0) _ HX1.out Tryd.underlying61 rfl HIF.out ?_
              simp only [Act.put, List.setIfInBounds_toArray, List.set_cons_zero, List.set_cons_succ]
              refine wpList_plain rfl fun _ hK => wp_builtS 35 1 _ rfl #[(0, .agg cs.toArray)] (by go_simp) _ _ (HBS.out _) (hK _ _ ?_)
              clear hK
              simp only [Act.put, List.setIfInBounds_toArray, List.set_cons_zero, List.set_cons_succ]
              obtain ⟨wa, hwa⟩ : ∃ v, X1.alloc (.cells cs.toArray 61) = v := ⟨_, rfl⟩
              rw [hwa]
              have HFA : Hid (Fr (fun _ => False) X1 wa) := by rw [← hwa]; exact (Fr.refl _ X1).alloc _
              have HOA : Hid (wa.ownsRow B 61 5 Hn.uni k (((s.units.take k).map (tUnit t)).flatMap (unitv))) := by
                have h := own_fr (own_fr HN.out.o_uni HWX.out (fun _ _ _ h => h)) HFA.out (fun _ _ _ h => h)
                rw [HKE.out] at h; exact h
              have HNA : Hid (∀ j u, cs[j]? = some u → wa.cell? ((⟨X1.heap.size, 0, none⟩ : Addr).add j) = some u) := by rw [← hwa]; exact World.news_of_block (cs := cs.toArray) (t := 61) (fr := (0, 0)) (heap_alloc_new X1 _)
              have HSA : Hid (wa.heap.size = X1.heap.size + 1) := by show _ = _; rw [← hwa]; simp
              have HBW2 : Hid (B ≤ wa.heap.size) := by have h1 := HN.out.fr.size; have h2 := HWX.out.size; have h3 := HSA.out; have h4 := HB.out; show _ ≤ _; omega
              clear hwa q5
              refine wpList_append_lies wa rfl (.tmp 87) (.tmp 89) 35 rfl B 61 i3 _ 5 48 Tryd.underlying35 hi3 hz30 hz31 hz32 rfl (by decide) Hn.uni k (((s.units.take k).map (tUnit t)).flatMap (unitv)) (by rfl) HOA.out ⟨X1.heap.size, 0, none⟩ 1 1 cs (by rfl) HLE.out HNA.out HON.out (by decide) (by simp only [maxLen]; omega) (by omega) HBW2.out (X1.heap.size + 1) HSA.out ?_
              intro gn cn wc g1 g2 g3 _
              simp only [Act.put, List.setIfInBounds_toArray, List.set_cons_zero, List.set_cons_succ]
              have HNX : Hid (TSt B (W.heap.size + 1 + 1) src wk H u (s.parties.map (nm t)) (s.roles.map (tRole t)) ((s.units.take k).map (tUnit t) ++ [tUnit t x]) [] [] { Hn with uni := .slice (some ⟨gn, 0, none⟩) (k + 1) cn } (wc.setCell ⟨W.heap.size + 1 + 1, 15, none⟩ (.slice (some ⟨gn, 0, none⟩) (k + 1) cn))) := by
                have h := HN.out.uni (x := tUnit t x) (gn := gn) (cn := cn) HB.out HTB.out (HWX.out.trans HFA.out) (by have g1 := g1; rw [← HCS.out] at g1; rw [HKE.out]; exact g1) g2 (by rw [HSA.out]; exact g3)
                rw [HKE.out] at h
                exact h
              have HTC : Hid (wc.heap[W.heap.size + 1 + 1]? = some (.cells (symc src wk Hn).toArray 39 (0, 0))) := (Fr.of_grown g2).blk (HFA.out.blk HTX.out (fun h => h)) (fun h => by have h1 := (own_lt HOA.out _ h).1; have h2 := HTB.out; omega)
              clear g1 g2 g3
              have q5 : wc.cell? ⟨W.heap.size + 1 + 1, 15, none⟩ = some Hn.uni := (cell_of_blk HTC.out 15).trans rfl
              have f5 : wc.frozen? ⟨W.heap.size + 1 + 1, 15, none⟩ = false := froz_of_blk HTC.out 15
              go_wp2_with fail
              go_roundw
              case rel => exact ⟨k + 1, by go_num, hlt, _, by rw [List.take_add_one, HXK.out, List.map_append]; exact HNX.out⟩
              case measure => simp [intOf]; omega
            · have k9 : ¬ ((k : Int) < (s.units.length : Int)) := by omega
              go_upto_region 16 with fail
              clear k9 q1
              have hke : k = s.units.length := by omega
              have HG : Hid (TSt B (W.heap.size + 1 + 1) src wk H u (s.parties.map (nm t)) (s.roles.map (tRole t)) (s.units.map (tUnit t)) [] [] Hn wr) := by
                have h := HN.out
                rw [hke, List.take_of_length_le (Nat.le_refl _)] at h
                exact h
              clear hke HSk HBk k0 hk HN hlt hll
              obtain ⟨H4, rfl⟩ : ∃ h, h = Hn := ⟨_, rfl⟩
              go_wp2_with fail
              go_loopw [10] (fun ki wr => TR_act B (W.heap.size + 1 + 1) src wk H u t s cl ki wr) (fun ki _ => s.acts.length - (intOf ki).toNat)
              case atStart => exact ⟨0, rfl, Nat.zero_le _, _, HG⟩
              case round =>
                clear HG
                obtain ⟨k, rfl, hk, Hn, HN⟩ := hrel
                have HSk : Hid (wr.heap[W.heap.size]? = some (.cells (symc src wk H).toArray 39 (0, 0))) := HN.out.fr.blk HS1.out (fun e => by omega)
                have HBk : Hid (Below W.heap.size W wr) := HB1.out.trans (HN.out.fr.below HB1.out.size (fun k h => by omega))
                have q1 : wr.cell? ⟨W.heap.size, 16, none⟩ = some (.slice Aa s.acts.length ca) := (cell_of_blk HSk.out 16).trans (congrArg some EA.out)
                have k0 : (0 : Int) ≤ (k : Int) := Int.natCast_nonneg _
                have hll : s.acts.length ≤ 1000000 := by omega
                by_cases hlt : k < s.acts.length
                · have hrow := HSY.out.act
                  rw [EA.out] at hrow
                  obtain ⟨gx, ox, _, hda, hgl, _, _, hat⟩ := hrow.at (by intro e; rw [List.map_eq_nil_iff] at e; rw [e] at hlt; simp at hlt)
                  have hA : Aa = some ⟨gx, ox, none⟩ := by injection hda
                  subst hA
                  obtain ⟨x, hx⟩ : ∃ x, s.acts[k]? = some x := ⟨_, List.getElem?_eq_getElem hlt⟩
                  have hxm : x ∈ s.acts := List.mem_of_getElem? hx
                  have HAT : Hid (At wr gx (ox + k * 9) (asymv x)) := (show At W gx (ox + k * 9) (asymv x) from hat k _ (by rw [List.getElem?_map, hx]; rfl)).below hgl HBk.out
                  have HXK : Hid (s.acts[k]? = some x) := hx
                  have HLN : Hid (x.name.length + t.length ≤ maxLen) := by
                    have h1 : x.name.length ≤ 1000000 := HNB.out.act x hxm
                    have h2 := HT.out
                    show _ ≤ _
                    simp only [maxLen]; omega
                  have HQ1 := Lib.hid q1
                  have HKE : Hid ((((s.acts.take k).map (tAct t))).length = k) := by show _ = _; rw [List.length_map, List.length_take]; omega
                  clear hat hgl hx hrow hxm
                  have hk7 : k ≤ 1000000 := by omega
                  have k2 : (k : Int) < (s.acts.length : Int) := by omega
                  go_upto_region 19 with fail
                  iterate 13 go_step
                  refine wpList_load_mid rfl 65 _ rfl gx (ox + k * 9) rfl (asymv x) _ HAT.out Tryd.underlying65 rfl (info_acts _) ?_
                  simp only [Act.put, List.setIfInBounds_toArray, List.set_cons_zero, List.set_cons_succ]
                  iterate 3 go_step
                  refine wpList_store_row rfl 65 _ _ rfl wr.heap.size (asymv x).toArray rfl rfl 65 _ (blk_newn rfl) (info_actsa _) rfl (by rw [List.all_toArray]; exact List.all_eq_true.2 (one_act x)) ?_
                  simp only [Act.put, List.setIfInBounds_toArray, List.set_cons_zero, List.set_cons_succ]
                  rw [World.setRow_alloc_new]
                  obtain ⟨X0, hX0⟩ : ∃ X0, wr.alloc (.cells (asymv x).toArray 65) = X0 := ⟨_, rfl⟩
                  rw [hX0]
                  have HX0 : Hid (X0.heap[wr.heap.size]? = some (.cells (asymv x).toArray 65 (0, 0))) := by rw [← hX0]; exact blk_newn rfl
                  have HW0 : Hid (Fr (fun _ => False) wr X0) := by rw [← hX0]; exact (Fr.refl _ wr).alloc _
                  clear hX0 q1
                  have c0 : X0.cell? ⟨wr.heap.size, 0, none⟩ = some (.string ⟨x.name.toArray⟩) := (cell_of_blk HX0.out 0).trans rfl
                  have f0 : X0.frozen? ⟨wr.heap.size, 0, none⟩ = false := froz_of_blk HX0.out 0
                  have HN0 := Lib.hid (named_any x.name t X0 HLN.out)
                  go_wp2_with fail
                  refine HN0.out.mono ?_
                  rintro e wj ⟨rfl, hwj⟩
                  have hwj := hwj.symm
                  subst hwj
                  go_upto_region 21 with fail
                  obtain ⟨X1, hX⟩ : ∃ X, X0.setCell ⟨wr.heap.size, 0, none⟩ (.string ⟨(nm t x.name).toArray⟩) = X := ⟨_, rfl⟩
                  rw [hX]
                  have HX1 : Hid (X1.heap[wr.heap.size]? = some (.cells (asymv (tAct t x)).toArray 65 (0, 0))) := by rw [← hX]; exact (blk_set HX0.out 0 _).trans rfl
                  have HWX : Hid (Fr (fun _ => False) wr X1) := by rw [← hX]; exact HW0.out.setCell (p := ⟨wr.heap.size, 0, none⟩) (.inr (Nat.le_refl _)) _
                  clear hX c0 f0 HN0 HX0 HW0
                  have HBS : Hid (∀ w : World, (Instr.buildSlice 36 1 #[(0, .agg (asymv (tAct t x)).toArray)]).run Tryd.prog w = .ok (.slice (some ⟨w.heap.size, 0, none⟩) 1 1) (w.alloc (.cells (asymv (tAct t x)).toArray 65))) := fun w => bsl_act (tAct t x) w
                  have HON : Hid (∀ u ∈ asymv (tAct t x), u.oneCell' = true) := one_act (tAct t x)
                  have HIF : Hid ((Tryd.prog.info? 65).map (·.size) = some (asymv (tAct t x)).toArray.size) := info_actsa (tAct t x)
                  have HLE : Hid ((asymv (tAct t x)).length = 1 * 9) := rfl
                  obtain ⟨cs, hcs⟩ : ∃ cs, asymv (tAct t x) = cs := ⟨_, rfl⟩
                  have HCS := Lib.hid hcs
                  rw [hcs] at HX1 HBS HON HIF HLE
                  clear hcs
                  have HTX : Hid (X1.heap[W.heap.size + 1 + 1]? = some (.cells (symc src wk Hn).toArray 39 (0, 0))) := HWX.out.blk HN.out.tbk (fun h => h)
                  have q5 : X1.cell? ⟨W.heap.size + 1 + 1, 16, none⟩ = some Hn.act := (cell_of_blk HTX.out 16).trans rfl
                  iterate 7 go_step
                  refine wpList_load_row rfl 65 _ rfl wr.heap.size rfl 65 cs.toArray (0, 0) _ HX1.out Tryd.underlying65 rfl HIF.out ?_
                  simp only [Act.put, List.setIfInBounds_toArray, List.set_cons_zero, List.set_cons_succ]
                  refine wpList_plain rfl fun _ hK => wp_builtS 36 1 _ rfl #[(0, .agg cs.toArray)] (by go_simp) _ _ (HBS.out _) (hK _ _ ?_)
                  clear hK
                  simp only [Act.put, List.setIfInBounds_toArray, List.set_cons_zero, List.set_cons_succ]
                  obtain ⟨wa, hwa⟩ : ∃ v, X1.alloc (.cells cs.toArray 65) = v := ⟨_, rfl⟩
                  rw [hwa]
                  have HFA : Hid (Fr (fun _ => False) X1 wa) := by rw [← hwa]; exact (Fr.refl _ X1).alloc _
                  have HOA : Hid (wa.ownsRow B 65 9 Hn.act k (((s.acts.take k).map (tAct t)).flatMap (asymv))) := by
                    have h := own_fr (own_fr HN.out.o_act HWX.out (fun _ _ _ h => h)) HFA.out (fun _ _ _ h => h)
                    rw [HKE.out] at h; exact h
                  have HNA : Hid (∀ j u, cs[j]? = some u → wa.cell? ((⟨X1.heap.size, 0, none⟩ : Addr).add j) = some u) := by rw [← hwa]; exact World.news_of_block (cs := cs.toArray) (t := 65) (fr := (0, 0)) (heap_alloc_new X1 _)
                  have HSA : Hid (wa.heap.size = X1.heap.size + 1) := by show _ = _; rw [← hwa]; simp
                  have HBW2 : Hid (B ≤ wa.heap.size) := by have h1 := HN.out.fr.size; have h2 := HWX.out.size; have h3 := HSA.out; have h4 := HB.out; show _ ≤ _; omega
                  clear hwa q5
                  refine wpList_append_lies wa rfl (.tmp 110) (.tmp 112) 36 rfl B 65 i4 _ 9 80 Tryd.underlying36 hi4 hz40 hz41 hz42 rfl (by decide) Hn.act k (((s.acts.take k).map (tAct t)).flatMap (asymv)) (by rfl) HOA.out ⟨X1.heap.size, 0, none⟩ 1 1 cs (by rfl) HLE.out HNA.out HON.out (by decide) (by simp only [maxLen]; omega) (by omega) HBW2.out (X1.heap.size + 1) HSA.out ?_
                  intro gn cn wc g1 g2 g3 _
                  simp only [Act.put, List.setIfInBounds_toArray, List.set_cons_zero, List.set_cons_succ]
                  have HNX : Hid (TSt B (W.heap.size + 1 + 1) src wk H u (s.parties.map (nm t)) (s.roles.map (tRole t)) (s.units.map (tUnit t)) ((s.acts.take k).map (tAct t) ++ [tAct t x]) [] { Hn with act := .slice (some ⟨gn, 0, none⟩) (k + 1) cn } (wc.setCell ⟨W.heap.size + 1 + 1, 16, none⟩ (.slice (some ⟨gn, 0, none⟩) (k + 1) cn))) := by
                    have h := HN.out.act (x := tAct t x) (gn := gn) (cn := cn) HB.out HTB.out (HWX.out.trans HFA.out) (by have g1 := g1; rw [← HCS.out] at g1; rw [HKE.out]; exact g1) g2 (by rw [HSA.out]; exact g3)
                    rw [HKE.out] at h
                    exact h
                  have HTC : Hid (wc.heap[W.heap.size + 1 + 1]? = some (.cells (symc src wk Hn).toArray 39 (0, 0))) := (Fr.of_grown g2).blk (HFA.out.blk HTX.out (fun h => h)) (fun h => by have h1 := (own_lt HOA.out _ h).1; have h2 := HTB.out; omega)
                  clear g1 g2 g3
                  have q5 : wc.cell? ⟨W.heap.size + 1 + 1, 16, none⟩ = some Hn.act := (cell_of_blk HTC.out 16).trans rfl
                  have f5 : wc.frozen? ⟨W.heap.size + 1 + 1, 16, none⟩ = false := froz_of_blk HTC.out 16
                  go_wp2_with fail
                  go_roundw
                  case rel => exact ⟨k + 1, by go_num, hlt, _, by rw [List.take_add_one, HXK.out, List.map_append]; exact HNX.out⟩
                  case measure => simp [intOf]; omega
                · have k9 : ¬ ((k : Int) < (s.acts.length : Int)) := by omega
                  go_upto_region 22 with fail
                  clear k9 q1
                  have hke : k = s.acts.length := by omega
                  have HG : Hid (TSt B (W.heap.size + 1 + 1) src wk H u (s.parties.map (nm t)) (s.roles.map (tRole t)) (s.units.map (tUnit t)) (s.acts.map (tAct t)) [] Hn wr) := by
                    have h := HN.out
                    rw [hke, List.take_of_length_le (Nat.le_refl _)] at h
                    exact h
                  clear hke HSk HBk k0 hk HN hlt hll
                  obtain ⟨H5, rfl⟩ : ∃ h, h = Hn := ⟨_, rfl⟩
                  go_wp2_with fail
                  go_loopw [12] (fun ki wr => TR_cla B (W.heap.size + 1 + 1) src wk H u t s cl ki wr) (fun ki _ => cl.length - (intOf ki).toNat)
                  case atStart => exact ⟨0, rfl, Nat.zero_le _, _, HG⟩
                  case round =>
                    clear HG
                    obtain ⟨k, rfl, hk, Hn, HN⟩ := hrel
                    have HSk : Hid (wr.heap[W.heap.size]? = some (.cells (symc src wk H).toArray 39 (0, 0))) := HN.out.fr.blk HS1.out (fun e => by omega)
                    have HBk : Hid (Below W.heap.size W wr) := HB1.out.trans (HN.out.fr.below HB1.out.size (fun k h => by omega))
                    have q1 : wr.cell? ⟨W.heap.size, 17, none⟩ = some (.slice Ac cl.length cc) := (cell_of_blk HSk.out 17).trans (congrArg some EC.out)
                    have k0 : (0 : Int) ≤ (k : Int) := Int.natCast_nonneg _
                    have hll : cl.length ≤ 1000000 := by omega
                    by_cases hlt : k < cl.length
                    · have hrow := HSY.out.cla
                      rw [EC.out] at hrow
                      obtain ⟨gx, ox, _, hda, hgl, _, _, hat⟩ := hrow.at (by intro e; rw [List.map_eq_nil_iff] at e; rw [e] at hlt; simp at hlt)
                      have hA : Ac = some ⟨gx, ox, none⟩ := by injection hda
                      subst hA
                      obtain ⟨x, hx⟩ : ∃ x, cl[k]? = some x := ⟨_, List.getElem?_eq_getElem hlt⟩
                      have hxm : x ∈ cl := List.mem_of_getElem? hx
                      have HAT : Hid (At wr gx (ox + k * 24) (csv2 x)) := (show At W gx (ox + k * 24) (csv2 x) from hat k _ (by rw [List.getElem?_map, hx]; rfl)).below hgl HBk.out
                      have HXK : Hid (cl[k]? = some x) := hx
                      have HLN : Hid (x.1.name.length + t.length ≤ maxLen) := by
                        have h1 : x.1.name.length ≤ 1000000 := HNB.out.cla x.1 (by rw [← HSY.out.cls]; exact List.mem_map_of_mem hxm)
                        have h2 := HT.out
                        show _ ≤ _
                        simp only [maxLen]; omega
                      have HQ1 := Lib.hid q1
                      have HKE : Hid ((((cl.take k).map (tC t))).length = k) := by show _ = _; rw [List.length_map, List.length_take]; omega
                      clear hat hgl hx hrow
                      have hk7 : k ≤ 1000000 := by omega
                      have k2 : (k : Int) < (cl.length : Int) := by omega
                      have HIS : Hid (IsSlice x.2) := by
                        obtain ⟨A, m, c, e⟩ := (HSY.out.cnd x hxm).form
                        exact ⟨A, m, c, e⟩
                      clear hxm
                      go_upto_region 25 with fail
                      iterate 13 go_step
                      refine wpList_load_mid rfl 71 _ rfl gx (ox + k * 24) rfl (csv2 x) _ HAT.out Tryd.underlying71 rfl (info_clas _) ?_
                      simp only [Act.put, List.setIfInBounds_toArray, List.set_cons_zero, List.set_cons_succ]
                      iterate 3 go_step
                      refine wpList_store_row rfl 71 _ _ rfl wr.heap.size (csv2 x).toArray rfl rfl 71 _ (blk_newn rfl) (info_clasa _) rfl (by rw [List.all_toArray]; exact List.all_eq_true.2 (one_cla x HIS.out)) ?_
                      simp only [Act.put, List.setIfInBounds_toArray, List.set_cons_zero, List.set_cons_succ]
                      rw [World.setRow_alloc_new]
                      obtain ⟨X0, hX0⟩ : ∃ X0, wr.alloc (.cells (csv2 x).toArray 71) = X0 := ⟨_, rfl⟩
                      rw [hX0]
                      have HX0 : Hid (X0.heap[wr.heap.size]? = some (.cells (csv2 x).toArray 71 (0, 0))) := by rw [← hX0]; exact blk_newn rfl
                      have HW0 : Hid (Fr (fun _ => False) wr X0) := by rw [← hX0]; exact (Fr.refl _ wr).alloc _
                      clear hX0 q1
                      have c0 : X0.cell? ⟨wr.heap.size, 0, none⟩ = some (.string ⟨x.1.name.toArray⟩) := (cell_of_blk HX0.out 0).trans rfl
                      have f0 : X0.frozen? ⟨wr.heap.size, 0, none⟩ = false := froz_of_blk HX0.out 0
                      have HN0 := Lib.hid (named_any x.1.name t X0 HLN.out)
                      go_wp2_with fail
                      refine HN0.out.mono ?_
                      rintro e wj ⟨rfl, hwj⟩
                      have hwj := hwj.symm
                      subst hwj
                      go_upto_region 27 with fail
                      obtain ⟨X1, hX⟩ : ∃ X, X0.setCell ⟨wr.heap.size, 0, none⟩ (.string ⟨(nm t x.1.name).toArray⟩) = X := ⟨_, rfl⟩
                      rw [hX]
                      have HX1 : Hid (X1.heap[wr.heap.size]? = some (.cells (csv2 (tC t x)).toArray 71 (0, 0))) := by rw [← hX]; exact (blk_set HX0.out 0 _).trans rfl
                      have HWX : Hid (Fr (fun _ => False) wr X1) := by rw [← hX]; exact HW0.out.setCell (p := ⟨wr.heap.size, 0, none⟩) (.inr (Nat.le_refl _)) _
                      clear hX c0 f0 HN0 HX0 HW0
                      have HBS : Hid (∀ w : World, (Instr.buildSlice 37 1 #[(0, .agg (csv2 (tC t x)).toArray)]).run Tryd.prog w = .ok (.slice (some ⟨w.heap.size, 0, none⟩) 1 1) (w.alloc (.cells (csv2 (tC t x)).toArray 71))) := fun w => bsl_cla (tC t x) HIS.out w
                      have HON : Hid (∀ u ∈ csv2 (tC t x), u.oneCell' = true) := one_cla (tC t x) HIS.out
                      have HIF : Hid ((Tryd.prog.info? 71).map (·.size) = some (csv2 (tC t x)).toArray.size) := info_clasa (tC t x)
                      have HLE : Hid ((csv2 (tC t x)).length = 1 * 24) := rfl
                      obtain ⟨cs, hcs⟩ : ∃ cs, csv2 (tC t x) = cs := ⟨_, rfl⟩
                      have HCS := Lib.hid hcs
                      rw [hcs] at HX1 HBS HON HIF HLE
                      clear hcs
                      have HTX : Hid (X1.heap[W.heap.size + 1 + 1]? = some (.cells (symc src wk Hn).toArray 39 (0, 0))) := HWX.out.blk HN.out.tbk (fun h => h)
                      have q5 : X1.cell? ⟨W.heap.size + 1 + 1, 17, none⟩ = some Hn.cla := (cell_of_blk HTX.out 17).trans rfl
                      iterate 7 go_step
                      refine wpList_load_row rfl 71 _ rfl wr.heap.size rfl 71 cs.toArray (0, 0) _ HX1.out Tryd.underlying71 rfl HIF.out ?_
                      simp only [Act.put, List.setIfInBounds_toArray, List.set_cons_zero, List.set_cons_succ]
                      refine wpList_plain rfl fun _ hK => wp_builtS 37 1 _ rfl #[(0, .agg cs.toArray)] (by go_simp) _ _ (HBS.out _) (hK _ _ ?_)
                      clear hK
                      simp only [Act.put, List.setIfInBounds_toArray, List.set_cons_zero, List.set_cons_succ]
                      obtain ⟨wa, hwa⟩ : ∃ v, X1.alloc (.cells cs.toArray 71) = v := ⟨_, rfl⟩
                      rw [hwa]
                      have HFA : Hid (Fr (fun _ => False) X1 wa) := by rw [← hwa]; exact (Fr.refl _ X1).alloc _
                      have HOA : Hid (wa.ownsRow B 71 24 Hn.cla k (((cl.take k).map (tC t)).flatMap (csv2))) := by
                        have h := own_fr (own_fr HN.out.o_cla HWX.out (fun _ _ _ h => h)) HFA.out (fun _ _ _ h => h)
                        rw [HKE.out] at h; exact h
                      have HNA : Hid (∀ j u, cs[j]? = some u → wa.cell? ((⟨X1.heap.size, 0, none⟩ : Addr).add j) = some u) := by rw [← hwa]; exact World.news_of_block (cs := cs.toArray) (t := 71) (fr := (0, 0)) (heap_alloc_new X1 _)
                      have HSA : Hid (wa.heap.size = X1.heap.size + 1) := by show _ = _; rw [← hwa]; simp
                      have HBW2 : Hid (B ≤ wa.heap.size) := by have h1 := HN.out.fr.size; have h2 := HWX.out.size; have h3 := HSA.out; have h4 := HB.out; show _ ≤ _; omega
                      clear hwa q5
                      refine wpList_append_lies wa rfl (.tmp 133) (.tmp 135) 37 rfl B 71 i5 _ 24 224 Tryd.underlying37 hi5 hz50 hz51 hz52 rfl (by decide) Hn.cla k (((cl.take k).map (tC t)).flatMap (csv2)) (by rfl) HOA.out ⟨X1.heap.size, 0, none⟩ 1 1 cs (by rfl) HLE.out HNA.out HON.out (by decide) (by simp only [maxLen]; omega) (by omega) HBW2.out (X1.heap.size + 1) HSA.out ?_
                      intro gn cn wc g1 g2 g3 _
                      simp only [Act.put, List.setIfInBounds_toArray, List.set_cons_zero, List.set_cons_succ]
                      have HNX : Hid (TSt B (W.heap.size + 1 + 1) src wk H u (s.parties.map (nm t)) (s.roles.map (tRole t)) (s.units.map (tUnit t)) (s.acts.map (tAct t)) ((cl.take k).map (tC t) ++ [tC t x]) { Hn with cla := .slice (some ⟨gn, 0, none⟩) (k + 1) cn } (wc.setCell ⟨W.heap.size + 1 + 1, 17, none⟩ (.slice (some ⟨gn, 0, none⟩) (k + 1) cn))) := by
                        have h := HN.out.cla (x := tC t x) (gn := gn) (cn := cn) HB.out HTB.out (HWX.out.trans HFA.out) (by have g1 := g1; rw [← HCS.out] at g1; rw [HKE.out]; exact g1) g2 (by rw [HSA.out]; exact g3)
                        rw [HKE.out] at h
                        exact h
                      have HTC : Hid (wc.heap[W.heap.size + 1 + 1]? = some (.cells (symc src wk Hn).toArray 39 (0, 0))) := (Fr.of_grown g2).blk (HFA.out.blk HTX.out (fun h => h)) (fun h => by have h1 := (own_lt HOA.out _ h).1; have h2 := HTB.out; omega)
                      clear g1 g2 g3
                      have q5 : wc.cell? ⟨W.heap.size + 1 + 1, 17, none⟩ = some Hn.cla := (cell_of_blk HTC.out 17).trans rfl
                      have f5 : wc.frozen? ⟨W.heap.size + 1 + 1, 17, none⟩ = false := froz_of_blk HTC.out 17
                      go_wp2_with fail
                      go_roundw
                      case rel => exact ⟨k + 1, by go_num, hlt, _, by rw [List.take_add_one, HXK.out, List.map_append]; exact HNX.out⟩
                      case measure => simp [intOf]; omega
                    · have k9 : ¬ ((k : Int) < (cl.length : Int)) := by omega
                      go_upto_region 28 with fail
                      clear k9 q1
                      have hke : k = cl.length := by omega
                      have HG : Hid (TSt B (W.heap.size + 1 + 1) src wk H u (s.parties.map (nm t)) (s.roles.map (tRole t)) (s.units.map (tUnit t)) (s.acts.map (tAct t)) (cl.map (tC t)) Hn wr) := by
                        have h := HN.out
                        rw [hke, List.take_of_length_le (Nat.le_refl _)] at h
                        exact h
                      clear hke HSk HBk k0 hk HN hlt hll
                      obtain ⟨H6, rfl⟩ : ∃ h, h = Hn := ⟨_, rfl⟩
                      obtain ⟨wz, rfl⟩ : ∃ w, w = wr := ⟨_, rfl⟩
                      have HR6 : Hid (wz.heap[W.heap.size + 1]? = some (.cells #[.string ⟨#[]⟩, .int .i64 0, .int .i64 0, .int .i64 0, .int .i64 0, .bool false, .bool false, .bool false, .bool false, .bool false, .bool false, .bool false, .slice none 0 0, .slice none 0 0, .slice none 0 0, .slice none 0 0, .slice none 0 0, .slice none 0 0] 39 (0, 0))) := HG.out.fr.blk HR1.out (fun e => by omega)
                      have HB6 : Hid (Below W.heap.size W wz) := HB1.out.trans (HG.out.fr.below HB1.out.size (fun k h => by omega))
                      have HVO : Hid ((symc src wk H6).toArray.all (·.oneCell') = true) := by
                        refine one_symc src wk H6 (by rw [HG.out.hol, EH.out]; exact ⟨_, _, _, rfl⟩) ?_ ?_ ?_ ?_ ?_
                        · obtain ⟨A, c, e⟩ := own_form HG.out.o_par; exact ⟨A, _, c, e⟩
                        · obtain ⟨A, c, e⟩ := own_form HG.out.o_rol; exact ⟨A, _, c, e⟩
                        · obtain ⟨A, c, e⟩ := own_form HG.out.o_uni; exact ⟨A, _, c, e⟩
                        · obtain ⟨A, c, e⟩ := own_form HG.out.o_act; exact ⟨A, _, c, e⟩
                        · obtain ⟨A, c, e⟩ := own_form HG.out.o_cla; exact ⟨A, _, c, e⟩
                      iterate 1 go_step
                      refine wpList_load_mid rfl 39 _ rfl (W.heap.size + 1 + 1) 0 rfl (symc src wk H6) _ (range_of_blk HG.out.tbk) Tryd.underlying39 rfl (info_symcl _ _ _) ?_
                      simp only [Act.put, List.setIfInBounds_toArray, List.set_cons_zero, List.set_cons_succ]
                      refine wpList_store_row rfl 39 _ _ rfl (W.heap.size + 1) (symc src wk H6).toArray rfl rfl 39 _ HR6.out (info_symc _ _ _) rfl HVO.out ?_
                      simp only [Act.put, List.setIfInBounds_toArray, List.set_cons_zero, List.set_cons_succ]
                      obtain ⟨w9, hw9⟩ : ∃ w9, wz.setRow (W.heap.size + 1) (symc src wk H6).toArray = w9 := ⟨_, rfl⟩
                      rw [hw9]
                      have HF9 : Hid (Fr (fun j => j = W.heap.size + 1) wz w9) := by rw [← hw9]; exact (Fr.refl (fun j => j = W.heap.size + 1) wz).setRow (.inl rfl) _
                      have HB9 : Hid (w9.heap[W.heap.size + 1]? = some (.cells (symc src wk H6).toArray 39 (0, 0))) := by rw [← hw9]; exact blk_row HR6.out _
                      have HBW : Hid (Below W.heap.size W w9) := HB6.out.trans (HF9.out.below HB6.out.size (fun k h => by omega))
                      have HG9 : Hid (TSt B (W.heap.size + 1 + 1) src wk H w9 (s.parties.map (nm t)) (s.roles.map (tRole t)) (s.units.map (tUnit t)) (s.acts.map (tAct t)) (cl.map (tC t)) H6 w9) := ⟨HG.out.rows.fr HF9.out (fun j hj _ e => by have := HTB.out; omega), HF9.out.blk HG.out.tbk (fun e => by omega), HG.out.hol, Fr.refl _ _⟩
                      clear hw9
                      go_wp2_with fail
                      refine bodyPost_ret (v := .agg (symc src wk H6).toArray) (results_blk Tryd.results22 rfl HB9.out Tryd.underlying39 rfl (info_symc _ _ _)) rfl ⟨H6, cl.map (tC t), rfl, ?_, HBW.out⟩
                      have hy := HSY.out
                      have hh := hy.hol.below HBW.out
                      rw [← HG.out.hol] at hh
                      refine ⟨hh, Row.of_own (f := fun x => [sv x]) (l := s.parties.map (nm t)) HG9.out.o_par (fun _ _ => rfl), Row.of_own (f := rolev) (l := s.roles.map (tRole t)) HG9.out.o_rol (fun _ _ => rfl), Row.of_own (f := unitv) (l := s.units.map (tUnit t)) HG9.out.o_uni (fun _ _ => rfl),
                        Row.of_own (f := asymv) (l := s.acts.map (tAct t)) HG9.out.o_act (fun _ _ => rfl), Row.of_own (f := csv2) (l := cl.map (tC t)) HG9.out.o_cla (fun _ _ => rfl), ?_, ?_, hy.wk⟩
                      · show (cl.map (tC t)).map Prod.fst = s.clauses.map (tCla t)
                        rw [← hy.cls, List.map_map, List.map_map]
                        rfl
                      · intro p hp
                        obtain ⟨q, hq, rfl⟩ := List.mem_map.1 hp
                        exact (hy.cnd q hq).below HBW.out
end Go.Proofs.YtdhjibnkebbejaaDoor.Rs
