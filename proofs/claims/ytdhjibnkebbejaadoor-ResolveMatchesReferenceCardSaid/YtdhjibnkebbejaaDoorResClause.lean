/-
  The lookup of an item's names: what its method clause returns.
-/
import Derived.Test.YtdhjibnkebbejaaDoorResAct
import Derived.Test.YtdhjibnkebbejaaDoorBlk
import Derived.Deep.MidRow
import Derived.Deep.AppendLies
namespace Go.Proofs.YtdhjibnkebbejaaDoor.Rs
open Go.RowKit Mem Vw
set_option linter.unusedVariables false
set_option linter.unusedSimpArgs false

/-- A method of the lookup at work, before its variable is there. -/
structure LkR (t : Tab) (B q l : Nat) (x : Item) (s : Sl) (w0 : World) (TR : Nat) (rs : List Value) (ok : Bool) (W : World) : Prop where
  ib : IB w0.heap.size x s W
  rb : W.heap[w0.heap.size + 1]? = some (.cells rs.toArray TR (0, 0))
  ls : LS t B q l ok W
  fr : Fr (fun k => k = l) w0 W
  hl : l < w0.heap.size
section
variable {t : Tab} {B q l : Nat} {x : Item} {s : Sl} {w0 W W' : World} {a T : Nat} {cs : List Value} {TR : Nat} {rs : List Value} {ok ok' : Bool}
theorem LkR.call (h : LkR t B q l x s w0 TR rs ok W) (hL : LS t B q l ok' W') (hF : Fr (fun k => k = l) W W') : LkR t B q l x s w0 TR rs ok' W' :=
  ⟨hF.blk h.ib (by have := h.hl; omega), hF.blk h.rb (by have := h.hl; omega), hL, h.fr.trans hF, h.hl⟩
theorem LkR.drew (h : LkR t B q l x s w0 TR rs ok W) : LkR t B q l x s w0 TR rs ok W.drew := h.call h.ls.drew (Fr.refl _ W).drew
theorem LkR.alloc (h : LkR t B q l x s w0 TR rs ok W) (o : Obj) : LkR t B q l x s w0 TR rs ok (W.alloc o) := h.call (h.ls.alloc o) ((Fr.refl _ W).alloc o)
theorem LkR.vi (h : LkR t B q l x s w0 TR rs ok W) (i : Nat) {v : Value} (hv : (ic (x, s))[i]? = some v) : W.cell? ⟨w0.heap.size, i, none⟩ = some v :=
  (cell_of_blk h.ib i).trans (by simpa using hv)
theorem LkR.lt (h : LkR t B q l x s w0 TR rs ok W) : w0.heap.size + 1 < W.heap.size := lt_of_blk h.rb
theorem LkR.new (h : LkR t B q l x s w0 TR rs ok W) {T : Nat} (cs : List Value) {o : Obj} (ho : o = .cells cs.toArray T) : LkS t B q l x s w0 W.heap.size T cs TR rs ok (W.alloc o) := by
  subst ho
  exact ⟨blk_alloc h.ib _, blk_newn rfl, blk_alloc h.rb _, h.ls.alloc _, h.fr.alloc _, h.hl, h.lt⟩
/-- New blocks behind the method's variable may be written. -/
theorem LkS.beyond {S : Nat → Prop} (h : LkS t B q l x s w0 a T cs TR rs ok W) (hF : Fr S W W') (hS : ∀ k, S k → a < k) : LkS t B q l x s w0 a T cs TR rs ok W' := by
  have h1 := h.hl
  have h2 := h.ha
  exact ⟨hF.blk h.ib (fun hs => by have := hS _ hs; omega), hF.blk h.ab (fun hs => by have := hS _ hs; omega), hF.blk h.rb (fun hs => by have := hS _ hs; omega), h.ls.fr hF (fun k hk => by have := hS _ hk; omega),
    h.fr.trans' hF (fun i hi hs => by have := hS _ hs; omega), h1, h2⟩
end
def clv (c : Clause) (st : Value) : List Value := [nv c.kind, nv c.role, nv c.act, nv c.need, st, nv 0, nv 0, .bool false, .bool c.fin, nv c.pause, nv c.resume, nv c.value.num, nv c.value.den, nv c.unit, nv c.to_, .bool false]
def csv (x : Item) (c : Clause) (st : Value) : List Value := [sv x.name, nv x.pos] ++ spanc x.within ++ spanc x.grace ++ clv c st
def condv (c : Cond) : List Value := [nv c.clause, nv c.is_]
def cs0 : List Value := [sv [], nv 0, nv 0, .bool false, sv [], nv 0, .bool false, sv [], nv 0, nv 0, nv 0, nv 0, Vw.nil, nv 0, nv 0, .bool false, .bool false, nv 0, nv 0, nv 0, nv 0, nv 0, nv 0, .bool false]
/-- A name stands where none may be. -/
def bad (x : Item) : Bool := !(decide (x.within.name = []) && decide (x.grace.name = []) && decide (x.sum = []))
theorem info_clause : (Tryd.prog.info? 69).map (·.size) = some 16 := by kernel_rfl
theorem info_csym : (Tryd.prog.info? 71).map (·.size) = some 24 := by kernel_rfl
theorem info_clv (c : Clause) (st : Value) : (Tryd.prog.info? 69).map (·.size) = some (clv c st).toArray.size := info_clause
theorem info_csv (x : Item) (c : Clause) (st : Value) : (Tryd.prog.info? 71).map (·.size) = some (csv x c st).toArray.size := info_csym
theorem size_csv (x : Item) (c : Clause) (st : Value) : cs0.toArray.size = (csv x c st).toArray.size := rfl
theorem one_csv (x : Item) (c : Clause) (A : Option Addr) (n m : Nat) : (csv x c (.slice A n m)).toArray.all (·.oneCell') = true := by simp [csv, clv, spanc, sv, nv, Value.oneCell']
theorem build_csym (x : Item) (c : Clause) (st : Value) (w : World) : (Instr.build 71 #[(0, .string ⟨x.name.toArray⟩), (1, .int .i64 x.pos), (2, .agg #[.int .i64 x.within.days, .bool x.within.bus, .string ⟨x.within.name.toArray⟩]), (3, .agg #[.int .i64 x.grace.days, .bool x.grace.bus, .string ⟨x.grace.name.toArray⟩]), (4, .agg (clv c st).toArray)]).run Tryd.prog w = .ok (.agg (csv x c st).toArray) w := by kernel_rfl
/-- The method at work, and the rows of its conditions. -/
structure LkO (t : Tab) (B q l : Nat) (x : Item) (s : Sl) (w0 : World) (a : Nat) (cs : List Value) (ok : Bool) (st : Value) (n : Nat) (xs : List Value) (W : World) : Prop where
  lk : LkS t B q l x s w0 a 69 cs 71 cs0 ok W
  own : W.ownsRow (a + 1) 114 2 st n xs
section
variable {t : Tab} {B q l : Nat} {x : Item} {s : Sl} {w0 W W' : World} {a : Nat} {cs : List Value} {ok ok' : Bool} {st : Value} {n : Nat} {xs : List Value}
theorem LkO.call (h : LkO t B q l x s w0 a cs ok st n xs W) (hL : LS t B q l ok' W') (hF : Fr (fun k => k = l) W W') : LkO t B q l x s w0 a cs ok' st n xs W' :=
  ⟨h.lk.call hL hF, own_fr h.own hF (fun k hk _ e => by have := h.lk.hl; have := h.lk.ha; omega)⟩
theorem LkO.drew (h : LkO t B q l x s w0 a cs ok st n xs W) : LkO t B q l x s w0 a cs ok st n xs W.drew := h.call h.lk.ls.drew (Fr.refl _ W).drew
theorem LkO.set (h : LkO t B q l x s w0 a cs ok st n xs W) (i : Nat) (v : Value) : LkO t B q l x s w0 a (cs.set i v) ok st n xs (W.setCell ⟨a, i, none⟩ v) :=
  ⟨h.lk.set i v, own_fr h.own ((Fr.refl (fun j => j = a) W).setb i v) (fun j hj _ e => by omega)⟩
theorem index_lo (g : Nat) (n' : Bytes) (h1 : 1 ≤ g) (h5 : g ≤ 5) (h : LkO t B q l x s w0 a cs ok st n xs W) :
    Calls Tryd.prog 45 #[.pointer (some ⟨l, 0, none⟩), .int .i64 (g : Int), .string ⟨n'.toArray⟩] W fun e w' => e = .returned (.int .i64 (ix t g n')) ∧ LkO t B q l x s w0 a cs (ok && has t g n') st n xs w' :=
  (index_ls g n' h1 h5 h.lk.ls).mono fun e w' ⟨he, hL, hF⟩ => ⟨he, h.call hL hF⟩
theorem optional_lo (g : Nat) (n' : Bytes) (h1 : 1 ≤ g) (h5 : g ≤ 5) (h : LkO t B q l x s w0 a cs ok st n xs W) :
    Calls Tryd.prog 59 #[.pointer (some ⟨l, 0, none⟩), .int .i64 (g : Int), .string ⟨n'.toArray⟩] W fun e w' => e = .returned (.int .i64 (ixo t g n')) ∧ LkO t B q l x s w0 a cs (ok && haso t g n') st n xs w' :=
  (optional_ls g n' h1 h5 h.lk.ls).mono fun e w' ⟨he, hL, hF⟩ => ⟨he, h.call hL hF⟩
end
theorem bne_yes {a b : Int} (h : (a != b) = true) : ¬ a = b := by simpa using h
theorem bne_no {a b : Int} (h : (a != b) = false) : a = b := by simpa using h
theorem beq_yes {a b : Int} (h : (a == b) = true) : a = b := by simpa using h
theorem beq_no {a b : Int} (h : (a == b) = false) : ¬ a = b := by simpa using h
theorem info_cond : (Tryd.prog.info? 114).map (fun i => (i.zero, i.size, i.bytes)) = some (some (.agg #[.int .i64 0, .int .i64 0]), 2, 16) := by kernel_rfl
/-- What the loop over conditions holds. -/
def CRel (t : Tab) (B q l : Nat) (x : Item) (s : Sl) (w0 : World) (a : Nat) (c : Clause) (ok : Bool) (i : Value) (wr : World) : Prop :=
  ∃ (k : Nat) (st : Value), i = .int .i64 (k : Int) ∧ k ≤ x.conds.length ∧ LkS t B q l x s w0 a 69 (clv c st) 71 cs0 (ok && (x.conds.take k).all (fun c => has t 5 c.name)) wr ∧
    wr.ownsRow (a + 1) 114 2 st k ((x.conds.take k).flatMap fun c => condv (condOf t c))
set_option maxRecDepth 100000 in
set_option maxHeartbeats 4000000 in
theorem clause_any (t : Tab) (B q l : Nat) (x : Item) (s : Sl) (ok : Bool) (W Wa : World) (h : LS t B q l ok W) (hrow : Row Wa s.1 2 (x.conds.map namedc)) (hba : Below Wa.heap.size Wa W) (hBa : Wa.heap.size ≤ B) (hcl : x.conds.length ≤ 1000000) :
    Calls Tryd.prog 48 #[.pointer (some ⟨l, 0, none⟩), .agg (ic (x, s)).toArray] W fun e w' => (∃ st, e = .returned (.agg (csv x (clauseOf t x) st).toArray) ∧ w'.ownsRow W.heap.size 114 2 st x.conds.length ((clauseOf t x).start.flatMap condv)) ∧ LS t B q l (ok && clauseOk t x) w' ∧ Fr (fun k => k = l) W w' := by
  have hll := h.lt
  have HL := Lib.hid h; have HROW := Lib.hid hrow; have HBA := Lib.hid hba; have HBL : Hid (Wa.heap.size ≤ l) := (Nat.le_trans hBa h.le : _)
  have HCL := Lib.hid hcl
  clear h hrow hba hBa hcl
  obtain ⟨u0, HU⟩ : ∃ u0, Hid (((W.alloc (.cells (ic (x, s)).toArray 55)).alloc (.cells cs0.toArray 71)) = u0) := ⟨_, rfl⟩
  have HS : Hid (LkR t B q l x s W 71 cs0 ok u0) := by
    rw [← HU.out]
    exact ⟨blk_alloc (blk_newn rfl) _, blk_newn (by simp), (HL.out.alloc _).alloc _, ((Fr.refl _ W).alloc _).alloc _, hll⟩
  clear HL
  go_enter Tryd.func48, Tryd.ntmps48
  go_upto_region 1 with fail
  have HU2 : Hid (((W.alloc (.cells (ic (x, s)).toArray 55)).alloc (.cells #[.string ⟨#[]⟩, .int .i64 0, .int .i64 0, .bool false, .string ⟨#[]⟩, .int .i64 0, .bool false, .string ⟨#[]⟩, .int .i64 0, .int .i64 0, .int .i64 0, .int .i64 0, .slice none 0 0, .int .i64 0, .int .i64 0, .bool false, .bool false, .int .i64 0, .int .i64 0, .int .i64 0, .int .i64 0, .int .i64 0, .int .i64 0, .bool false] 71)) = u0) := HU.out
  rw [HU2.out]
  clear HU HU2
  have i9 : u0.cell? ⟨W.heap.size, 9, none⟩ = some (.string ⟨x.within.name.toArray⟩) := HS.out.vi 9 rfl
  have i12 : u0.cell? ⟨W.heap.size, 12, none⟩ = some (.string ⟨x.grace.name.toArray⟩) := HS.out.vi 12 rfl
  have i19 : u0.cell? ⟨W.heap.size, 19, none⟩ = some (.string ⟨x.sum.toArray⟩) := HS.out.vi 19 rfl
  go_cut [22] (fun s22 wx => s22 = .bool (bad x) ∧ wx = u0)
  case first =>
    by_cases h1 : x.within.name = []
    · by_cases h2 : x.grace.name = []
      · by_cases h3 : x.sum = []
        · have E : Hid (bad x = false) := by show _ = _; unfold bad; simp [h1, h2, h3]
          rw [h1] at i9; rw [h2] at i12; rw [h3] at i19
          clear h1 h2 h3
          go_wp2_with fail
          go_meet
          exact ⟨by rw [E.out], rfl⟩
        · have E : Hid (bad x = true) := by show _ = _; unfold bad; simp [h3]
          have hb : (x.sum == []) = false := by simpa using h3
          rw [h1] at i9; rw [h2] at i12
          clear h1 h2 h3
          go_wp2_with fail
          go_meet
          exact ⟨by rw [E.out], rfl⟩
      · have E : Hid (bad x = true) := by show _ = _; unfold bad; simp [h2]
        have hb : (x.grace.name == []) = false := by simpa using h2
        rw [h1] at i9
        clear h1 h2
        go_wp2_with fail
        go_meet
        exact ⟨by rw [E.out], rfl⟩
    · have E : Hid (bad x = true) := by show _ = _; unfold bad; simp [h1]
      have hb : (x.within.name == []) = false := by simpa using h1
      clear h1
      go_wp2_with fail
      go_meet
      exact ⟨by rw [E.out], rfl⟩
  case rest =>
    obtain ⟨rfl, rfl⟩ := hcut
    clear i9 i12 i19
    go_upto_if 22 with fail
    go_cut [] (fun wx => Hid (LkR t B q l x s W 71 cs0 (ok && !bad x) wx))
    case first =>
      cases hb : bad x with
      | true =>
        have l0 := cell_of_blk HS.out.ls.lb 1; have l1 := froz_of_blk HS.out.ls.lb 1
        have HN : Hid (LkR t B q l x s W 71 cs0 (ok && !bad x) (wc.setCell ⟨l, 1, none⟩ (.bool false))) := by
          rw [hb, Bool.not_true, Bool.and_false]
          have hf : Fr (fun k => k = l) wc (wc.setCell ⟨l, 1, none⟩ (.bool false)) := (Fr.refl _ wc).setb 1 _
          exact HS.out.call ⟨HS.out.ls.tb.fr hf (fun k hk => by have := HS.out.ls.le; omega), HS.out.ls.lb.set _, HS.out.ls.le⟩ hf
        clear hb
        go_wp2_with fail
        go_meet
        exact HN
      | false =>
        have HN : Hid (LkR t B q l x s W 71 cs0 (ok && !bad x) wc) := by rw [hb, Bool.not_false, Bool.and_true]; exact HS.out
        clear hb
        go_wp2_with fail
        go_meet
        exact HN
    case rest =>
      have HS := Lib.hid hcut.out
      clear hcut
      obtain ⟨v1, rfl⟩ : ∃ v : World, v = wc := ⟨_, rfl⟩
      have j0 : v1.cell? ⟨W.heap.size, 0, none⟩ = some (.int .i64 x.kind) := HS.out.vi 0 rfl
      have j20 : v1.cell? ⟨W.heap.size, 20, none⟩ = some (.bool x.fin) := HS.out.vi 20 rfl
      have hlt := HS.out.lt
      have hlt0 : W.heap.size < v1.heap.size := by omega
      go_upto_region 3 with fail
      go_cut [5] (fun s5 wx => s5 = .pointer (some ⟨v1.heap.size, 0, none⟩) ∧ Hid (LkS t B q l x s W v1.heap.size 69 (clv ⟨clauseKind x.kind, -1, 0, 1, [], x.fin, 0, 0, ⟨0, 0⟩, 0, 0⟩ Vw.nil) 71 cs0 (ok && !bad x) wx))
      case first =>
        have HN := Lib.hid (HS.out.new (T := 69) (clv ⟨clauseKind x.kind, -1, 0, 1, [], x.fin, 0, 0, ⟨0, 0⟩, 0, 0⟩ Vw.nil) rfl).drew
        go_region_held3 (fun w' => w'.cell? ⟨W.heap.size, 0, none⟩ = some (.int .i64 x.kind) ∧ w'.cell? ⟨W.heap.size, 20, none⟩ = some (.bool x.fin)) (go_keep)
          ((go_at_call 60; refine (clauseKind_any x.kind _).mono ?_; rintro e wk ⟨rfl, rfl⟩))
        all_goals
          go_wp2_with fail
          go_meet
          exact ⟨rfl, HN⟩
      case rest =>
        obtain ⟨rfl, hcut⟩ := hcut
        have HSA := Lib.hid hcut.out
        clear hcut HS j0 j20
        obtain ⟨v2, rfl⟩ : ∃ v : World, v = wc := ⟨_, rfl⟩
        have j0 : v2.cell? ⟨W.heap.size, 0, none⟩ = some (.int .i64 x.kind) := HSA.out.vi 0 rfl
        have j3 : v2.cell? ⟨W.heap.size, 3, none⟩ = some (.string ⟨x.of_.toArray⟩) := HSA.out.vi 3 rfl
        go_upto_if 34 with fail
        go_cut [] (fun wx => Hid (LkS t B q l x s W v1.heap.size 69 (clv ⟨clauseKind x.kind, (if x.kind = 12 then -1 else ix t 2 x.of_), 0, 1, [], x.fin, 0, 0, ⟨0, 0⟩, 0, 0⟩ Vw.nil) 71 cs0 (ok && !bad x && (decide (x.kind = 12) || has t 2 x.of_)) wx))
        case first =>
          go_wp2_with fail
          · have hk : ¬ x.kind = 12 := bne_yes (by assumption)
            have HK := Lib.hid hk
            refine (index_lk 2 x.of_ (by omega) (by omega) HSA.out).mono ?_
            rintro e w1 ⟨rfl, h1⟩
            have HS1 := Lib.hid h1; clear h1
            obtain ⟨a1, b1⟩ := HS1.out.va 1 rfl
            have HN : Hid (LkS t B q l x s W v1.heap.size 69 (clv ⟨clauseKind x.kind, (if x.kind = 12 then -1 else ix t 2 x.of_), 0, 1, [], x.fin, 0, 0, ⟨0, 0⟩, 0, 0⟩ Vw.nil) 71 cs0 (ok && !bad x && (decide (x.kind = 12) || has t 2 x.of_)) (w1.setCell ⟨v1.heap.size, 1, none⟩ (.int .i64 (ix t 2 x.of_)))) := by
              show LkS t B q l x s W v1.heap.size 69 (clv ⟨clauseKind x.kind, (if x.kind = 12 then -1 else ix t 2 x.of_), 0, 1, [], x.fin, 0, 0, ⟨0, 0⟩, 0, 0⟩ Vw.nil) 71 cs0 (ok && !bad x && (decide (x.kind = 12) || has t 2 x.of_)) _
              rw [if_neg HK.out, show decide (x.kind = 12) = false by simp [HK.out], Bool.false_or]
              exact HS1.out.set 1 _
            go_wp2_with fail
            go_meet
            exact HN
          · have hk : x.kind = 12 := bne_no (by assumption)
            have HN : Hid (LkS t B q l x s W v1.heap.size 69 (clv ⟨clauseKind x.kind, (if x.kind = 12 then -1 else ix t 2 x.of_), 0, 1, [], x.fin, 0, 0, ⟨0, 0⟩, 0, 0⟩ Vw.nil) 71 cs0 (ok && !bad x && (decide (x.kind = 12) || has t 2 x.of_)) v2) := by
              show LkS t B q l x s W v1.heap.size 69 (clv ⟨clauseKind x.kind, (if x.kind = 12 then -1 else ix t 2 x.of_), 0, 1, [], x.fin, 0, 0, ⟨0, 0⟩, 0, 0⟩ Vw.nil) 71 cs0 (ok && !bad x && (decide (x.kind = 12) || has t 2 x.of_)) _
              rw [if_pos hk, show decide (x.kind = 12) = true by simp [hk], Bool.true_or, Bool.and_true]
              exact HSA.out
            go_meet
            exact HN
        case rest =>
          have HSB := Lib.hid hcut.out
          clear hcut HSA j0 j3
          obtain ⟨v3, rfl⟩ : ∃ v : World, v = wc := ⟨_, rfl⟩
          have j0 : v3.cell? ⟨W.heap.size, 0, none⟩ = some (.int .i64 x.kind) := HSB.out.vi 0 rfl
          have j6 : v3.cell? ⟨W.heap.size, 6, none⟩ = some (.int .i64 x.times) := HSB.out.vi 6 rfl
          obtain ⟨a3, b3⟩ := HSB.out.va 3 rfl
          dsimp only [nv] at a3
          go_upto_if 42 with fail
          go_cut [] (fun wx => Hid (LkS t B q l x s W v1.heap.size 69 (clv ⟨clauseKind x.kind, (if x.kind = 12 then -1 else ix t 2 x.of_), 0, (if x.kind = 9 then x.times else 1), [], x.fin, 0, 0, ⟨0, 0⟩, 0, 0⟩ Vw.nil) 71 cs0 (ok && !bad x && (decide (x.kind = 12) || has t 2 x.of_)) wx))
          case first =>
            go_wp2_with fail
            · have hk : x.kind = 9 := beq_yes (by assumption)
              have HN : Hid (LkS t B q l x s W v1.heap.size 69 (clv ⟨clauseKind x.kind, (if x.kind = 12 then -1 else ix t 2 x.of_), 0, (if x.kind = 9 then x.times else 1), [], x.fin, 0, 0, ⟨0, 0⟩, 0, 0⟩ Vw.nil) 71 cs0 (ok && !bad x && (decide (x.kind = 12) || has t 2 x.of_)) (v3.setCell ⟨v1.heap.size, 3, none⟩ (.int .i64 x.times))) := by
                show LkS t B q l x s W v1.heap.size 69 (clv ⟨clauseKind x.kind, (if x.kind = 12 then -1 else ix t 2 x.of_), 0, (if x.kind = 9 then x.times else 1), [], x.fin, 0, 0, ⟨0, 0⟩, 0, 0⟩ Vw.nil) 71 cs0 (ok && !bad x && (decide (x.kind = 12) || has t 2 x.of_)) _
                rw [if_pos hk]
                exact HSB.out.set 3 _
              go_meet
              exact HN
            · have hk : ¬ x.kind = 9 := beq_no (by assumption)
              have HN : Hid (LkS t B q l x s W v1.heap.size 69 (clv ⟨clauseKind x.kind, (if x.kind = 12 then -1 else ix t 2 x.of_), 0, (if x.kind = 9 then x.times else 1), [], x.fin, 0, 0, ⟨0, 0⟩, 0, 0⟩ Vw.nil) 71 cs0 (ok && !bad x && (decide (x.kind = 12) || has t 2 x.of_)) v3) := by
                show LkS t B q l x s W v1.heap.size 69 (clv ⟨clauseKind x.kind, (if x.kind = 12 then -1 else ix t 2 x.of_), 0, (if x.kind = 9 then x.times else 1), [], x.fin, 0, 0, ⟨0, 0⟩, 0, 0⟩ Vw.nil) 71 cs0 (ok && !bad x && (decide (x.kind = 12) || has t 2 x.of_)) _
                rw [if_neg hk]
                exact HSB.out
              go_meet
              exact HN
          case rest =>
            have HSC := Lib.hid hcut.out
            clear hcut HSB j0 j6 a3 b3
            have j4 : wc.cell? ⟨W.heap.size, 4, none⟩ = some (.string ⟨x.act.toArray⟩) := HSC.out.vi 4 rfl
            go_wp2_with fail
            refine (index_lk 4 x.act (by omega) (by omega) HSC.out).mono ?_
            rintro e w1 ⟨rfl, h1⟩
            have HS1 := Lib.hid h1; clear h1 j4 HSC
            have HS2 := Lib.hid (HS1.out.set 2 (nv (ix t 4 x.act)))
            have j13 : w1.cell? ⟨W.heap.size, 13, none⟩ = some s.1 := HS1.out.vi 13 rfl
            obtain ⟨a2, b2⟩ := HS1.out.va 2 rfl
            obtain ⟨Ac, cc, hsc, hcc1, hcc2⟩ := HROW.out.slice
            rw [List.length_map] at hsc hcc1
            rw [hsc] at j13
            have HSC := Lib.hid hsc; clear hsc
            have hnl : x.conds.length ≤ 9223372036854775807 := by omega
            go_wp2_with fail
            go_loopw [54] (fun i wr => CRel t B q l x s W v1.heap.size ⟨clauseKind x.kind, (if x.kind = 12 then -1 else ix t 2 x.of_), ix t 4 x.act, (if x.kind = 9 then x.times else 1), [], x.fin, 0, 0, ⟨0, 0⟩, 0, 0⟩ (ok && !bad x && (decide (x.kind = 12) || has t 2 x.of_) && has t 4 x.act) i wr) (fun i wr => x.conds.length - (intOf i).toNat)
            case atStart =>
              refine ⟨0, Vw.nil, rfl, Nat.zero_le _, ?_, World.ownsRow_nil _ _ _ _⟩
              show LkS _ _ _ _ _ _ _ _ _ _ _ _ (_ && true) _
              rw [Bool.and_true]
              exact HS2.out
            case round =>
              clear HS1 HS2 j13 a2 b2
              obtain ⟨k, st, rfl, hk, hL, hO⟩ := hrel
              obtain ⟨As, cs, rfl⟩ := own_form hO
              have HL := Lib.hid hL; have HO := Lib.hid hO
              have h4 := (HL.out.va 4 rfl).1
              by_cases hlt' : k < x.conds.length
              · have HBW : Hid (Below Wa.heap.size Wa wr) := HBA.out.trans (hL.fr.below HBA.out.size (fun j hj => by have := HBL.out; omega))
                obtain ⟨g, o, cap, hs1, hgl, _, _, hat⟩ := (HROW.out.below HBW.out).at (by intro e; rw [List.map_eq_nil_iff] at e; rw [e] at hlt'; simp at hlt')
                have hAc : Ac = some ⟨g, o, none⟩ := by have := HSC.out.symm.trans hs1; injection this
                subst hAc
                have hck : At wr g (o + k * 2) (namedc x.conds[k]) := hat k _ (by simp [List.getElem?_eq_getElem hlt'])
                have e0 : wr.cell? ⟨g, o + k * 2, none⟩ = some (.string ⟨x.conds[k].name.toArray⟩) := hck.cell 0 rfl
                have e1 : wr.cell? ⟨g, o + k * 2 + 1, none⟩ = some (.int .i64 x.conds[k].is_) := hck.cell 1 rfl
                have hl0 : v1.heap.size < wr.heap.size := HL.out.alt
                have HLd := Lib.hid (HL.out.alloc (.cells #[.string ⟨x.conds[k].name.toArray⟩, .int .i64 x.conds[k].is_] 116)).drew
                have HOd : Hid ((wr.alloc (.cells #[.string ⟨x.conds[k].name.toArray⟩, .int .i64 x.conds[k].is_] 116)).drew.ownsRow (v1.heap.size + 1) 114 2 (.slice As k cs) k _) := own_fr HO.out (((Fr.refl (fun _ => False) wr).alloc _).drew) (fun _ _ _ h => h)
                have HCB : Hid ((wr.alloc (.cells #[.string ⟨x.conds[k].name.toArray⟩, .int .i64 x.conds[k].is_] 116)).drew.heap[wr.heap.size]? = some (.cells #[.string ⟨x.conds[k].name.toArray⟩, .int .i64 x.conds[k].is_] 116 (0, 0))) := blk_newn rfl
                obtain ⟨i0, hi, hz0, hz1, hz2⟩ := info_parts info_cond
                clear hat hck hs1 HO hgl
                have i1 : (0 : Int) ≤ (k : Int) := Int.natCast_nonneg _
                have i2 : (k : Int) < (x.conds.length : Int) := by omega
                go_wp2_with fail
                have h4 : (wr.alloc (.cells #[.string ⟨x.conds[k].name.toArray⟩, .int .i64 x.conds[k].is_] 116)).drew.cell? ⟨v1.heap.size, 4, none⟩ = some (.slice As k cs) := (HLd.out.va 4 rfl).1
                refine Reg.G.start (by kernel_rfl) ?_
                refine' Reg.G.pure (i := 0) (v := _) rfl rfl (by kernel_rfl) (by kernel_rfl) (by kernel_rfl) (fun _ _ _ h => h) ?hyr12_0 ?rer12_0
                case hyr12_0 => exact fun w => by first | (go_simp; done) | (go_simp; with_reducible rfl)
                simp only [Act.put, List.setIfInBounds_toArray, List.set_cons_zero, List.set_cons_succ]
                refine' Reg.G.take (i := 1) (v := _) (F := fun w => w.cell? ⟨v1.heap.size, 4, none⟩ = some (.slice As k cs)) rfl rfl (by kernel_rfl) (by kernel_rfl) (by kernel_rfl) (fun _ _ _ h => h) (by exact h4) ?hyr12_1 ?rer12_1
                case hyr12_1 => intro w hw; first | (go_simp; done) | (go_simp; with_reducible rfl)
                simp only [Act.put, List.setIfInBounds_toArray, List.set_cons_zero, List.set_cons_succ]
                refine' Reg.G.pure (i := 2) (v := _) rfl rfl (by kernel_rfl) (by kernel_rfl) (by kernel_rfl) (fun _ _ _ h => h) ?hyr12_2 ?rer12_2
                case hyr12_2 => exact fun w => by first | (go_simp; done) | (go_simp; with_reducible rfl)
                simp only [Act.put, List.setIfInBounds_toArray, List.set_cons_zero, List.set_cons_succ]
                refine' Reg.G.pure (i := 3) (v := _) rfl rfl (by kernel_rfl) (by kernel_rfl) (by kernel_rfl) (fun _ _ _ h => h) ?hyr12_3 ?rer12_3
                case hyr12_3 => exact fun w => by first | (go_simp; done) | (go_simp; with_reducible rfl)
                simp only [Act.put, List.setIfInBounds_toArray, List.set_cons_zero, List.set_cons_succ]
                refine' Reg.G.take (i := 4) (v := _) (F := fun w => w.heap[wr.heap.size]? = some (.cells #[.string ⟨x.conds[k].name.toArray⟩, .int .i64 x.conds[k].is_] 116 (0, 0))) rfl rfl (by kernel_rfl) (by kernel_rfl) (by kernel_rfl) (fun _ _ _ h => h) (by exact HCB.out) ?hyr12_4 ?rer12_4
                case hyr12_4 => intro w hw; have k0 : w.cell? ⟨wr.heap.size, 0, none⟩ = some (.string ⟨x.conds[k].name.toArray⟩) := cell_of_blk hw 0; clear hw; first | (go_simp; done) | (go_simp; with_reducible rfl)
                simp only [Act.put, List.setIfInBounds_toArray, List.set_cons_zero, List.set_cons_succ]
                refine' Reg.G.pure (i := 6) (v := _) rfl rfl (by kernel_rfl) (by kernel_rfl) (by kernel_rfl) (fun _ _ _ h => h) ?hyr12_6 ?rer12_6
                case hyr12_6 => exact fun w => by first | (go_simp; done) | (go_simp; with_reducible rfl)
                simp only [Act.put, List.setIfInBounds_toArray, List.set_cons_zero, List.set_cons_succ]
                refine' Reg.G.take (i := 7) (v := _) (F := fun w => w.heap[wr.heap.size]? = some (.cells #[.string ⟨x.conds[k].name.toArray⟩, .int .i64 x.conds[k].is_] 116 (0, 0))) rfl rfl (by kernel_rfl) (by kernel_rfl) (by kernel_rfl) (fun _ _ _ h => h) (by exact HCB.out) ?hyr12_7 ?rer12_7
                case hyr12_7 => intro w hw; have k0 : w.cell? ⟨wr.heap.size, 1, none⟩ = some (.int .i64 x.conds[k].is_) := cell_of_blk hw 1; clear hw; first | (go_simp; done) | (go_simp; with_reducible rfl)
                simp only [Act.put, List.setIfInBounds_toArray, List.set_cons_zero, List.set_cons_succ]
                refine Reg.G.step (j := 5) (m := [true, false, true]) [7, 4, 1] rfl (by kernel_rfl) rfl (by kernel_rfl) (fun K hK => ?_)
                go_simp
                refine (index_ls 5 x.conds[k].name (by omega) (by omega) HLd.out.ls).mono ?_
                rintro e w1 ⟨rfl, hL1, hF1⟩
                have HL1 := Lib.hid (HLd.out.call hL1 hF1)
                have HO1 := Lib.hid (own_fr HOd.out hF1 (fun k hk _ e => by have := HLd.out.hl; have := HLd.out.ha; omega))
                have HC1 : Hid (w1.heap[wr.heap.size]? = some (.cells #[.string ⟨x.conds[k].name.toArray⟩, .int .i64 x.conds[k].is_] 116 (0, 0))) := hF1.blk HCB.out (by have := HLd.out.hl; have := hL.fr.size; omega)
                obtain ⟨g4, gf4⟩ := HL1.out.va 4 rfl
                have gl := HL1.out.alt
                clear hL1 hF1
                refine hK.out _ _ ⟨HC1.out, g4, trivial⟩ ?_
                clear hK K
                simp only [Act.put, List.setIfInBounds_toArray, List.set_cons_zero, List.set_cons_succ, Reg.Kept]
                refine' Reg.G.pure (i := 8) (v := _) rfl rfl (by kernel_rfl) (by kernel_rfl) (by kernel_rfl) (fun _ _ _ h => h) ?hyr12_8 ?rer12_8
                case hyr12_8 => exact fun w => by first | (go_simp; done) | (go_simp; with_reducible rfl)
                simp only [Act.put, List.setIfInBounds_toArray, List.set_cons_zero, List.set_cons_succ]
                refine Reg.G.step (j := 9) (m := [false, true]) [7, 1] rfl (by kernel_rfl) rfl (by kernel_rfl) (fun K hK => ?_)
                -- Op.buildSlice 67 1 #[(0, t66)]
                go_simp
                have g4b : (w1.alloc (.cells #[.int .i64 (ix t 5 x.conds[k].name), .int .i64 x.conds[k].is_] 114)).cell? ⟨v1.heap.size, 4, none⟩ = some (.slice As k cs) := (World.cell?_alloc_lt w1 _ _ gl).trans g4
                refine hK.out _ _ ⟨g4b, trivial⟩ ?_
                clear hK K
                simp only [Act.put, List.setIfInBounds_toArray, List.set_cons_zero, List.set_cons_succ, Reg.Kept]
                refine Reg.G.step (j := 10) (m := [false]) [1] rfl (by kernel_rfl) rfl (by kernel_rfl) (fun K hK => ?_)
                -- Op.call { callee := Callee.builtin Builtin.append, args := #[t59, t67], argTypes := #[67, 67] }
                refine Go.step_append_lies _ rfl (.tmp 59) (.tmp 67) 67 rfl (v1.heap.size + 1) 114 i0 _ 2 16 Tryd.underlying67 hi hz0 hz1 hz2 rfl (by decide) (.slice As k cs) k _ (by rfl) (HO1.out.alloc _) ⟨w1.heap.size, 0, none⟩ 1 1 [.int .i64 (ix t 5 x.conds[k].name), .int .i64 x.conds[k].is_] (by rfl) rfl (World.news_of_block (cs := #[.int .i64 (ix t 5 x.conds[k].name), .int .i64 x.conds[k].is_]) (t := 114) (fr := (0, 0)) (heap_alloc_new w1 _)) (by simp [Value.oneCell']) (by decide) (by simp only [maxLen]; have := HCL.out; omega) (by have := HCL.out; omega) (by simp only [World.size_alloc]; omega) (w1.heap.size + 1) (by simp) ?_
                intro gg cap1 w5 hown hgrow _ _
                have HG5 : Hid (Fr (fun j => Value.ownBlock (.slice As k cs) = some j) (w1.alloc (.cells #[.int .i64 (ix t 5 x.conds[k].name), .int .i64 x.conds[k].is_] 114)) w5) := (Fr.refl _ _).grown hgrow (fun k hk => .inl hk)
                have HL5 := Lib.hid ((HL1.out.alloc _).beyond HG5.out (fun j hj => by have := (own_lt HO1.out j hj).1; omega))
                have HO5 := Lib.hid hown
                obtain ⟨h54, hf54⟩ := HL5.out.va 4 rfl
                have HL6 := Lib.hid (HL5.out.set 4 (.slice (some ⟨gg, 0, none⟩) (k + 1) cap1))
                have HO6 := Lib.hid (own_fr HO5.out ((Fr.refl (fun j => j = v1.heap.size) w5).setb 4 (.slice (some ⟨gg, 0, none⟩) (k + 1) cap1)) (fun j hj _ e => by omega))
                clear hgrow hown
                refine hK.out _ _ trivial ?_
                clear hK K
                simp only [Act.put, List.setIfInBounds_toArray, List.set_cons_zero, List.set_cons_succ, Reg.Kept]
                refine' Reg.G.pure (i := 11) (v := _) rfl rfl (by kernel_rfl) (by kernel_rfl) (by kernel_rfl) (fun _ _ _ h => h) ?hyr12_11 ?rer12_11
                case hyr12_11 => exact fun w => by first | (go_simp; done) | (go_simp; with_reducible rfl)
                simp only [Act.put, List.setIfInBounds_toArray, List.set_cons_zero, List.set_cons_succ]
                refine Reg.G.step (j := 12) (m := []) [] rfl (by kernel_rfl) rfl (by kernel_rfl) (fun K hK => ?_)
                -- Op.store 67 (t69) (t68)
                go_simp
                refine hK.out _ _ trivial ?_
                clear hK K
                simp only [Act.put, List.setIfInBounds_toArray, List.set_cons_zero, List.set_cons_succ, Reg.Kept]
                refine Reg.G.done (by kernel_rfl) ?_
                have HN : Hid (CRel t B q l x s W v1.heap.size ⟨clauseKind x.kind, (if x.kind = 12 then -1 else ix t 2 x.of_), ix t 4 x.act, (if x.kind = 9 then x.times else 1), [], x.fin, 0, 0, ⟨0, 0⟩, 0, 0⟩ (ok && !bad x && (decide (x.kind = 12) || has t 2 x.of_) && has t 4 x.act) (.int .i64 ((k : Int) + 1)) (w5.setCell ⟨v1.heap.size, 4, none⟩ (.slice (some ⟨gg, 0, none⟩) (k + 1) cap1))) := by
                  have ht : x.conds.take (k + 1) = x.conds.take k ++ [x.conds[k]] := by rw [List.take_succ_eq_append_getElem hlt']
                  refine ⟨k + 1, .slice (some ⟨gg, 0, none⟩) (k + 1) cap1, rfl, hlt', ?_, ?_⟩
                  · rw [ht, List.all_append, ← Bool.and_assoc, List.all_cons, List.all_nil, Bool.and_true]
                    exact HL6.out
                  · rw [ht, List.flatMap_append, List.flatMap_cons, List.flatMap_nil, List.append_nil]
                    exact HO6.out
                clear HL5 HO5 HL6 HO6 HG5 HL1 HO1 HC1 HLd HOd HCB hi hz0 hz1 hz2 g4 g4b h4 h54
                go_wp2_with fail
                go_roundw
                case rel => exact HN.out
                case measure => simp [intOf]; omega
              · obtain rfl : k = x.conds.length := by omega
                rw [List.take_length] at HL HO
                have HLO := Lib.hid (LkO.mk HL.out HO.out)
                clear HL HO hL hO h4 hk hlt'
                go_wp2_with fail
                refine Reg.G.start (by kernel_rfl) ?_
                refine' Reg.G.pure (i := 0) (v := _) rfl rfl (by kernel_rfl) (by kernel_rfl) (by kernel_rfl) (fun _ _ _ h => h) ?hyr14_0 ?rer14_0
                case hyr14_0 => exact fun w => by first | (go_simp; done) | (go_simp; with_reducible rfl)
                simp only [Act.put, List.setIfInBounds_toArray, List.set_cons_zero, List.set_cons_succ]
                refine' Reg.G.pure (i := 1) (v := _) rfl rfl (by kernel_rfl) (by kernel_rfl) (by kernel_rfl) (fun _ _ _ h => h) ?hyr14_1 ?rer14_1
                case hyr14_1 => exact fun w => by first | (go_simp; done) | (go_simp; with_reducible rfl)
                simp only [Act.put, List.setIfInBounds_toArray, List.set_cons_zero, List.set_cons_succ]
                refine' Reg.G.take (i := 2) (v := _) (F := fun w => IB W.heap.size x s w) rfl rfl (by kernel_rfl) (by kernel_rfl) (by kernel_rfl) (fun _ _ _ h => h) (HLO.out.lk.ib) ?hyr14_2 ?rer14_2
                case hyr14_2 => intro w hw; have k0 : w.cell? ⟨W.heap.size, 14, none⟩ = some (.string ⟨x.by_.toArray⟩) := cell_of_blk hw 14; clear hw; first | (go_simp; done) | (go_simp; with_reducible rfl)
                simp only [Act.put, List.setIfInBounds_toArray, List.set_cons_zero, List.set_cons_succ]
                refine' Reg.G.pure (i := 4) (v := _) rfl rfl (by kernel_rfl) (by kernel_rfl) (by kernel_rfl) (fun _ _ _ h => h) ?hyr14_4 ?rer14_4
                case hyr14_4 => exact fun w => by first | (go_simp; done) | (go_simp; with_reducible rfl)
                simp only [Act.put, List.setIfInBounds_toArray, List.set_cons_zero, List.set_cons_succ]
                refine' Reg.G.pure (i := 5) (v := _) rfl rfl (by kernel_rfl) (by kernel_rfl) (by kernel_rfl) (fun _ _ _ h => h) ?hyr14_5 ?rer14_5
                case hyr14_5 => exact fun w => by first | (go_simp; done) | (go_simp; with_reducible rfl)
                simp only [Act.put, List.setIfInBounds_toArray, List.set_cons_zero, List.set_cons_succ]
                refine' Reg.G.take (i := 6) (v := _) (F := fun w => IB W.heap.size x s w) rfl rfl (by kernel_rfl) (by kernel_rfl) (by kernel_rfl) (fun _ _ _ h => h) (HLO.out.lk.ib) ?hyr14_6 ?rer14_6
                case hyr14_6 => intro w hw; have k0 : w.cell? ⟨W.heap.size, 15, none⟩ = some (.string ⟨x.til.toArray⟩) := cell_of_blk hw 15; clear hw; first | (go_simp; done) | (go_simp; with_reducible rfl)
                simp only [Act.put, List.setIfInBounds_toArray, List.set_cons_zero, List.set_cons_succ]
                refine Reg.G.step (j := 3) (m := [true, false]) [6, 2] rfl (by kernel_rfl) rfl (by kernel_rfl) (fun K hK => ?_)
                -- Op.call { callee := Callee.value (func 59), args := #[t71, const (int IntKind.i64 4), t73], argTypes := #[125, 3, 9] }
                go_simp
                refine (optional_lo 4 x.by_ (by omega) (by omega) HLO.out.drew).mono ?_
                rintro e w1 ⟨rfl, h1⟩
                have HL1 := Lib.hid h1; clear h1
                refine hK.out _ _ ⟨HL1.out.lk.ib, trivial⟩ ?_
                clear hK K
                simp only [Act.put, List.setIfInBounds_toArray, List.set_cons_zero, List.set_cons_succ, Reg.Kept]
                refine' Reg.G.pure (i := 8) (v := _) rfl rfl (by kernel_rfl) (by kernel_rfl) (by kernel_rfl) (fun _ _ _ h => h) ?hyr14_8 ?rer14_8
                case hyr14_8 => exact fun w => by first | (go_simp; done) | (go_simp; with_reducible rfl)
                simp only [Act.put, List.setIfInBounds_toArray, List.set_cons_zero, List.set_cons_succ]
                refine Reg.G.step (j := 7) (m := [false]) [6] rfl (by kernel_rfl) rfl (by kernel_rfl) (fun K hK => ?_)
                -- Op.call { callee := Callee.value (func 59), args := #[t75, const (int IntKind.i64 4), t77], argTypes := #[125, 3, 9] }
                go_simp
                refine (optional_lo 4 x.til (by omega) (by omega) HL1.out).mono ?_
                rintro e w2 ⟨rfl, h1⟩
                have HL2 := Lib.hid h1; clear h1 HL1
                obtain ⟨c9, f9⟩ := HL2.out.lk.va 9 rfl
                obtain ⟨c10, f10⟩ := HL2.out.lk.va 10 rfl
                obtain ⟨c11, f11⟩ := HL2.out.lk.va 11 rfl
                obtain ⟨c12, f12⟩ := HL2.out.lk.va 12 rfl
                obtain ⟨c13, f13⟩ := HL2.out.lk.va 13 rfl
                obtain ⟨c14, f14⟩ := HL2.out.lk.va 14 rfl
                dsimp only [nv] at c9 c10 c11 c12 c13 c14
                refine hK.out _ _ trivial ?_
                clear hK K
                simp only [Act.put, List.setIfInBounds_toArray, List.set_cons_zero, List.set_cons_succ, Reg.Kept]
                refine Reg.G.step (j := 9) (m := []) [] rfl (by kernel_rfl) rfl (by kernel_rfl) (fun K hK => ?_)
                -- Op.store 3 (t79) (t74)
                go_simp
                refine hK.out _ _ trivial ?_
                clear hK K
                simp only [Act.put, List.setIfInBounds_toArray, List.set_cons_zero, List.set_cons_succ, Reg.Kept]
                refine' Reg.G.pure (i := 10) (v := _) rfl rfl (by kernel_rfl) (by kernel_rfl) (by kernel_rfl) (fun _ _ _ h => h) ?hyr14_10 ?rer14_10
                case hyr14_10 => exact fun w => by first | (go_simp; done) | (go_simp; with_reducible rfl)
                simp only [Act.put, List.setIfInBounds_toArray, List.set_cons_zero, List.set_cons_succ]
                refine Reg.G.step (j := 11) (m := []) [] rfl (by kernel_rfl) rfl (by kernel_rfl) (fun K hK => ?_)
                -- Op.store 3 (t80) (t78)
                go_simp
                refine hK.out _ _ trivial ?_
                clear hK K
                simp only [Act.put, List.setIfInBounds_toArray, List.set_cons_zero, List.set_cons_succ, Reg.Kept]
                refine Reg.G.done (by kernel_rfl) ?_
                obtain ⟨w3, hw3⟩ : ∃ w3, (w2.setCell ⟨v1.heap.size, 9, none⟩ (.int .i64 (ixo t 4 x.by_))).setCell ⟨v1.heap.size, 10, none⟩ (.int .i64 (ixo t 4 x.til)) = w3 := ⟨_, rfl⟩
                rw [hw3]
                have HL3 : Hid (LkO t B q l x s W v1.heap.size ((clv ⟨clauseKind x.kind, (if x.kind = 12 then -1 else ix t 2 x.of_), ix t 4 x.act, (if x.kind = 9 then x.times else 1), [], x.fin, 0, 0, ⟨0, 0⟩, 0, 0⟩ (.slice As x.conds.length cs)).set 9 (nv (ixo t 4 x.by_)) |>.set 10 (nv (ixo t 4 x.til))) (ok && !bad x && (decide (x.kind = 12) || has t 2 x.of_) && has t 4 x.act && x.conds.all (fun c => has t 5 c.name) && haso t 4 x.by_ && haso t 4 x.til) (.slice As x.conds.length cs) x.conds.length (x.conds.flatMap fun c => condv (condOf t c)) w3) := by
                  rw [← hw3]
                  exact (HL2.out.set 9 (nv (ixo t 4 x.by_))).set 10 (nv (ixo t 4 x.til))
                clear c9 f9 c10 f10 c11 f11 c12 f12 c13 f13 c14 f14 hw3 HL2
                obtain ⟨c11, f11⟩ := HL3.out.lk.va 11 rfl
                obtain ⟨c12, f12⟩ := HL3.out.lk.va 12 rfl
                obtain ⟨c13, f13⟩ := HL3.out.lk.va 13 rfl
                obtain ⟨c14, f14⟩ := HL3.out.lk.va 14 rfl
                have j18 := HL3.out.lk.vi 18 rfl
                dsimp only [sv, nv] at j18 c11 c12 c13 c14
                go_upto_if 87 with fail
                obtain ⟨w4, hw4⟩ : ∃ w4, (((w3.setCell ⟨v1.heap.size, 13, none⟩ (.int .i64 (-1))).setCell ⟨v1.heap.size, 14, none⟩ (.int .i64 (-1))).setCell ⟨v1.heap.size, 11, none⟩ (.int .i64 0)).setCell ⟨v1.heap.size, 12, none⟩ (.int .i64 1) = w4 := ⟨_, rfl⟩
                rw [hw4]
                have HL4 : Hid (LkO t B q l x s W v1.heap.size (clv ⟨clauseKind x.kind, (if x.kind = 12 then -1 else ix t 2 x.of_), ix t 4 x.act, (if x.kind = 9 then x.times else 1), [], x.fin, ixo t 4 x.by_, ixo t 4 x.til, ⟨0, 1⟩, -1, -1⟩ (.slice As x.conds.length cs)) (ok && !bad x && (decide (x.kind = 12) || has t 2 x.of_) && has t 4 x.act && x.conds.all (fun c => has t 5 c.name) && haso t 4 x.by_ && haso t 4 x.til) (.slice As x.conds.length cs) x.conds.length (x.conds.flatMap fun c => condv (condOf t c)) w4) := by
                  rw [← hw4]
                  exact (((HL3.out.set 13 (nv (-1))).set 14 (nv (-1))).set 11 (nv 0)).set 12 (nv 1)
                clear c11 f11 c12 f12 c13 f13 c14 f14 hw4 HL3 j18
                go_cut [] (fun wx => Hid (LkO t B q l x s W v1.heap.size (clv ⟨clauseKind x.kind, (if x.kind = 12 then -1 else ix t 2 x.of_), ix t 4 x.act, (if x.kind = 9 then x.times else 1), [], x.fin, ixo t 4 x.by_, ixo t 4 x.til, (if x.unit = [] then ⟨0, 1⟩ else x.num), ixo t 3 x.unit, (if x.unit = [] then -1 else ix t 2 x.to_)⟩ (.slice As x.conds.length cs)) (ok && !bad x && (decide (x.kind = 12) || has t 2 x.of_) && has t 4 x.act && x.conds.all (fun c => has t 5 c.name) && haso t 4 x.by_ && haso t 4 x.til && (decide (x.unit = []) || has t 3 x.unit && has t 2 x.to_)) (.slice As x.conds.length cs) x.conds.length (x.conds.flatMap fun c => condv (condOf t c)) wx))
                case first =>
                  go_wp2_with fail
                  · have hne := ne_yes (by assumption)
                    have HNE := Lib.hid hne; clear hne
                    refine Reg.G.start (by kernel_rfl) ?_
                    refine' Reg.G.pure (i := 0) (v := _) rfl rfl (by kernel_rfl) (by kernel_rfl) (by kernel_rfl) (fun _ _ _ h => h) ?hyr17_0 ?rer17_0
                    case hyr17_0 => exact fun w => by first | (go_simp; done) | (go_simp; with_reducible rfl)
                    simp only [Act.put, List.setIfInBounds_toArray, List.set_cons_zero, List.set_cons_succ]
                    refine' Reg.G.pure (i := 1) (v := _) rfl rfl (by kernel_rfl) (by kernel_rfl) (by kernel_rfl) (fun _ _ _ h => h) ?hyr17_1 ?rer17_1
                    case hyr17_1 => exact fun w => by first | (go_simp; done) | (go_simp; with_reducible rfl)
                    simp only [Act.put, List.setIfInBounds_toArray, List.set_cons_zero, List.set_cons_succ]
                    refine' Reg.G.take (i := 2) (v := _) (F := fun w => IB W.heap.size x s w) rfl rfl (by kernel_rfl) (by kernel_rfl) (by kernel_rfl) (fun _ _ _ h => h) (HL4.out.lk.ib) ?hyr17_2 ?rer17_2
                    case hyr17_2 => intro w hw; have k0 : w.cell? ⟨W.heap.size, 18, none⟩ = some (.string ⟨x.unit.toArray⟩) := cell_of_blk hw 18; clear hw; first | (go_simp; done) | (go_simp; with_reducible rfl)
                    simp only [Act.put, List.setIfInBounds_toArray, List.set_cons_zero, List.set_cons_succ]
                    refine' Reg.G.pure (i := 4) (v := _) rfl rfl (by kernel_rfl) (by kernel_rfl) (by kernel_rfl) (fun _ _ _ h => h) ?hyr17_4 ?rer17_4
                    case hyr17_4 => exact fun w => by first | (go_simp; done) | (go_simp; with_reducible rfl)
                    simp only [Act.put, List.setIfInBounds_toArray, List.set_cons_zero, List.set_cons_succ]
                    refine' Reg.G.pure (i := 5) (v := _) rfl rfl (by kernel_rfl) (by kernel_rfl) (by kernel_rfl) (fun _ _ _ h => h) ?hyr17_5 ?rer17_5
                    case hyr17_5 => exact fun w => by first | (go_simp; done) | (go_simp; with_reducible rfl)
                    simp only [Act.put, List.setIfInBounds_toArray, List.set_cons_zero, List.set_cons_succ]
                    refine' Reg.G.take (i := 6) (v := _) (F := fun w => IB W.heap.size x s w) rfl rfl (by kernel_rfl) (by kernel_rfl) (by kernel_rfl) (fun _ _ _ h => h) (HL4.out.lk.ib) ?hyr17_6 ?rer17_6
                    case hyr17_6 => intro w hw; have k0 : w.cell? ⟨W.heap.size, 22, none⟩ = some (.string ⟨x.to_.toArray⟩) := cell_of_blk hw 22; clear hw; first | (go_simp; done) | (go_simp; with_reducible rfl)
                    simp only [Act.put, List.setIfInBounds_toArray, List.set_cons_zero, List.set_cons_succ]
                    refine' Reg.G.pure (i := 8) (v := _) rfl rfl (by kernel_rfl) (by kernel_rfl) (by kernel_rfl) (fun _ _ _ h => h) ?hyr17_8 ?rer17_8
                    case hyr17_8 => exact fun w => by first | (go_simp; done) | (go_simp; with_reducible rfl)
                    simp only [Act.put, List.setIfInBounds_toArray, List.set_cons_zero, List.set_cons_succ]
                    refine' Reg.G.take (i := 9) (v := _) (F := fun w => IB W.heap.size x s w) rfl rfl (by kernel_rfl) (by kernel_rfl) (by kernel_rfl) (fun _ _ _ h => h) (HL4.out.lk.ib) ?hyr17_9 ?rer17_9
                    case hyr17_9 => intro w hw; have k0 : w.cell? ⟨W.heap.size, 16, none⟩ = some (.int .i64 x.num.num) := cell_of_blk hw 16; have k1 : w.cell? ⟨W.heap.size, 17, none⟩ = some (.int .i64 x.num.den) := cell_of_blk hw 17; clear hw; first | (go_simp; done) | (go_simp; with_reducible rfl)
                    simp only [Act.put, List.setIfInBounds_toArray, List.set_cons_zero, List.set_cons_succ]
                    refine Reg.G.step (j := 3) (m := [true, true, false]) [9, 6, 2] rfl (by kernel_rfl) rfl (by kernel_rfl) (fun K hK => ?_)
                    -- Op.call { callee := Callee.value (func 45), args := #[t88, const (int IntKind.i64 3), t90], argTypes := #[125, 3, 9] }
                    go_simp
                    refine (index_lo 3 x.unit (by omega) (by omega) HL4.out.drew).mono ?_
                    rintro e w5 ⟨rfl, h1⟩
                    have HL5 := Lib.hid h1; clear h1
                    refine hK.out _ _ ⟨HL5.out.lk.ib, HL5.out.lk.ib, trivial⟩ ?_
                    clear hK K
                    simp only [Act.put, List.setIfInBounds_toArray, List.set_cons_zero, List.set_cons_succ, Reg.Kept]
                    refine' Reg.G.pure (i := 10) (v := _) rfl rfl (by kernel_rfl) (by kernel_rfl) (by kernel_rfl) (fun _ _ _ h => h) ?hyr17_10 ?rer17_10
                    case hyr17_10 => exact fun w => by first | (go_simp; done) | (go_simp; with_reducible rfl)
                    simp only [Act.put, List.setIfInBounds_toArray, List.set_cons_zero, List.set_cons_succ]
                    refine Reg.G.step (j := 7) (m := [true, false]) [9, 6] rfl (by kernel_rfl) rfl (by kernel_rfl) (fun K hK => ?_)
                    -- Op.call { callee := Callee.value (func 45), args := #[t92, const (int IntKind.i64 2), t94], argTypes := #[125, 3, 9] }
                    go_simp
                    refine (index_lo 2 x.to_ (by omega) (by omega) HL5.out).mono ?_
                    rintro e w6 ⟨rfl, h1⟩
                    have HL6 := Lib.hid h1; clear h1 HL5
                    obtain ⟨c11, f11⟩ := HL6.out.lk.va 11 rfl
                    obtain ⟨c12, f12⟩ := HL6.out.lk.va 12 rfl
                    obtain ⟨c13, f13⟩ := HL6.out.lk.va 13 rfl
                    obtain ⟨c14, f14⟩ := HL6.out.lk.va 14 rfl
                    dsimp only [nv] at c11 c12 c13 c14
                    refine hK.out _ _ ⟨HL6.out.lk.ib, trivial⟩ ?_
                    clear hK K
                    simp only [Act.put, List.setIfInBounds_toArray, List.set_cons_zero, List.set_cons_succ, Reg.Kept]
                    refine Reg.G.step (j := 11) (m := [true]) [9] rfl (by kernel_rfl) rfl (by kernel_rfl) (fun K hK => ?_)
                    -- Op.store 3 (t98) (t91)
                    go_simp
                    refine hK.out _ _ ⟨(HL6.out.set 13 (nv (ix t 3 x.unit))).lk.ib, trivial⟩ ?_
                    clear hK K
                    simp only [Act.put, List.setIfInBounds_toArray, List.set_cons_zero, List.set_cons_succ, Reg.Kept]
                    refine' Reg.G.pure (i := 12) (v := _) rfl rfl (by kernel_rfl) (by kernel_rfl) (by kernel_rfl) (fun _ _ _ h => h) ?hyr17_12 ?rer17_12
                    case hyr17_12 => exact fun w => by first | (go_simp; done) | (go_simp; with_reducible rfl)
                    simp only [Act.put, List.setIfInBounds_toArray, List.set_cons_zero, List.set_cons_succ]
                    refine Reg.G.step (j := 13) (m := [true]) [9] rfl (by kernel_rfl) rfl (by kernel_rfl) (fun K hK => ?_)
                    -- Op.store 3 (t99) (t95)
                    go_simp
                    refine hK.out _ _ ⟨((HL6.out.set 13 (nv (ix t 3 x.unit))).set 14 (nv (ix t 2 x.to_))).lk.ib, trivial⟩ ?_
                    clear hK K
                    simp only [Act.put, List.setIfInBounds_toArray, List.set_cons_zero, List.set_cons_succ, Reg.Kept]
                    refine' Reg.G.pure (i := 14) (v := _) rfl rfl (by kernel_rfl) (by kernel_rfl) (by kernel_rfl) (fun _ _ _ h => h) ?hyr17_14 ?rer17_14
                    case hyr17_14 => exact fun w => by first | (go_simp; done) | (go_simp; with_reducible rfl)
                    simp only [Act.put, List.setIfInBounds_toArray, List.set_cons_zero, List.set_cons_succ]
                    refine Reg.G.step (j := 15) (m := [false]) [9] rfl (by kernel_rfl) rfl (by kernel_rfl) (fun K hK => ?_)
                    -- Op.store 52 (t100) (t97)
                    go_simp
                    refine hK.out _ _ trivial ?_
                    clear hK K
                    simp only [Act.put, List.setIfInBounds_toArray, List.set_cons_zero, List.set_cons_succ, Reg.Kept]
                    refine Reg.G.done (by kernel_rfl) ?_
                    have HN : Hid (LkO t B q l x s W v1.heap.size (clv ⟨clauseKind x.kind, (if x.kind = 12 then -1 else ix t 2 x.of_), ix t 4 x.act, (if x.kind = 9 then x.times else 1), [], x.fin, ixo t 4 x.by_, ixo t 4 x.til, (if x.unit = [] then ⟨0, 1⟩ else x.num), ixo t 3 x.unit, (if x.unit = [] then -1 else ix t 2 x.to_)⟩ (.slice As x.conds.length cs)) (ok && !bad x && (decide (x.kind = 12) || has t 2 x.of_) && has t 4 x.act && x.conds.all (fun c => has t 5 c.name) && haso t 4 x.by_ && haso t 4 x.til && (decide (x.unit = []) || has t 3 x.unit && has t 2 x.to_)) (.slice As x.conds.length cs) x.conds.length (x.conds.flatMap fun c => condv (condOf t c)) ((((w6.setCell ⟨v1.heap.size, 13, none⟩ (.int .i64 (ix t 3 x.unit))).setCell ⟨v1.heap.size, 14, none⟩ (.int .i64 (ix t 2 x.to_))).setCell ⟨v1.heap.size, 11, none⟩ (.int .i64 x.num.num)).setCell ⟨v1.heap.size, 12, none⟩ (.int .i64 x.num.den))) := by
                      have := (((HL6.out.set 13 (nv (ix t 3 x.unit))).set 14 (nv (ix t 2 x.to_))).set 11 (nv x.num.num)).set 12 (nv x.num.den)
                      show LkO t B q l x s W v1.heap.size (clv ⟨clauseKind x.kind, (if x.kind = 12 then -1 else ix t 2 x.of_), ix t 4 x.act, (if x.kind = 9 then x.times else 1), [], x.fin, ixo t 4 x.by_, ixo t 4 x.til, (if x.unit = [] then ⟨0, 1⟩ else x.num), ixo t 3 x.unit, (if x.unit = [] then -1 else ix t 2 x.to_)⟩ (.slice As x.conds.length cs)) (ok && !bad x && (decide (x.kind = 12) || has t 2 x.of_) && has t 4 x.act && x.conds.all (fun c => has t 5 c.name) && haso t 4 x.by_ && haso t 4 x.til && (decide (x.unit = []) || has t 3 x.unit && has t 2 x.to_)) (.slice As x.conds.length cs) x.conds.length (x.conds.flatMap fun c => condv (condOf t c)) _
                      rw [show decide (x.unit = []) = false by simp [HNE.out], Bool.false_or, ixo_ne HNE.out, if_neg HNE.out, if_neg HNE.out, ← Bool.and_assoc]
                      exact this
                    clear c11 f11 c12 f12 c13 f13 c14 f14
                    go_wp2_with fail
                    go_meet
                    exact HN
                  · have hne := ne_no (by assumption)
                    have HN : Hid (LkO t B q l x s W v1.heap.size (clv ⟨clauseKind x.kind, (if x.kind = 12 then -1 else ix t 2 x.of_), ix t 4 x.act, (if x.kind = 9 then x.times else 1), [], x.fin, ixo t 4 x.by_, ixo t 4 x.til, (if x.unit = [] then ⟨0, 1⟩ else x.num), ixo t 3 x.unit, (if x.unit = [] then -1 else ix t 2 x.to_)⟩ (.slice As x.conds.length cs)) (ok && !bad x && (decide (x.kind = 12) || has t 2 x.of_) && has t 4 x.act && x.conds.all (fun c => has t 5 c.name) && haso t 4 x.by_ && haso t 4 x.til && (decide (x.unit = []) || has t 3 x.unit && has t 2 x.to_)) (.slice As x.conds.length cs) x.conds.length (x.conds.flatMap fun c => condv (condOf t c)) w4) := by
                      show LkO t B q l x s W v1.heap.size (clv ⟨clauseKind x.kind, (if x.kind = 12 then -1 else ix t 2 x.of_), ix t 4 x.act, (if x.kind = 9 then x.times else 1), [], x.fin, ixo t 4 x.by_, ixo t 4 x.til, (if x.unit = [] then ⟨0, 1⟩ else x.num), ixo t 3 x.unit, (if x.unit = [] then -1 else ix t 2 x.to_)⟩ (.slice As x.conds.length cs)) (ok && !bad x && (decide (x.kind = 12) || has t 2 x.of_) && has t 4 x.act && x.conds.all (fun c => has t 5 c.name) && haso t 4 x.by_ && haso t 4 x.til && (decide (x.unit = []) || has t 3 x.unit && has t 2 x.to_)) (.slice As x.conds.length cs) x.conds.length (x.conds.flatMap fun c => condv (condOf t c)) _
                      rw [show decide (x.unit = []) = true by simp [hne], Bool.true_or, Bool.and_true, if_pos hne, if_pos hne, show ixo t 3 x.unit = -1 by rw [hne]; rfl]
                      exact HL4.out
                    clear hne
                    go_meet
                    exact HN
                case rest =>
                  obtain ⟨ce, HCE⟩ : ∃ ce : Clause, Hid (ce = ⟨clauseKind x.kind, (if x.kind = 12 then -1 else ix t 2 x.of_), ix t 4 x.act, (if x.kind = 9 then x.times else 1), [], x.fin, ixo t 4 x.by_, ixo t 4 x.til, (if x.unit = [] then ⟨0, 1⟩ else x.num), ixo t 3 x.unit, (if x.unit = [] then -1 else ix t 2 x.to_)⟩) := ⟨_, rfl⟩
                  have HL7 : Hid (LkO t B q l x s W v1.heap.size (clv ce (.slice As x.conds.length cs)) (ok && !bad x && (decide (x.kind = 12) || has t 2 x.of_) && has t 4 x.act && x.conds.all (fun c => has t 5 c.name) && haso t 4 x.by_ && haso t 4 x.til && (decide (x.unit = []) || has t 3 x.unit && has t 2 x.to_)) (.slice As x.conds.length cs) x.conds.length (x.conds.flatMap fun c => condv (condOf t c)) wc) := by rw [HCE.out]; exact hcut.out
                  clear hcut HL4
                  have d1 := HL7.out.lk.vi 1 rfl
                  have d2 := HL7.out.lk.vi 2 rfl
                  have d7 := HL7.out.lk.vi 7 rfl
                  have d8 := HL7.out.lk.vi 8 rfl
                  have d9 := HL7.out.lk.vi 9 rfl
                  have d10 := HL7.out.lk.vi 10 rfl
                  have d11 := HL7.out.lk.vi 11 rfl
                  have d12 := HL7.out.lk.vi 12 rfl
                  dsimp only [sv, nv] at d1 d2 d7 d8 d9 d10 d11 d12
                  go_upto_region 18 with fail
                  iterate 25 go_step
                  refine wpList_load_row rfl 69 _ rfl v1.heap.size rfl 69 (clv ce (.slice As x.conds.length cs)).toArray (0, 0) _ HL7.out.lk.ab Tryd.underlying69 rfl (info_clv _ _) ?_
                  simp only [Act.put, List.setIfInBounds_toArray, List.set_cons_zero, List.set_cons_succ]
                  refine wpList_built rfl 71 _ rfl #[(0, .string ⟨x.name.toArray⟩), (1, .int .i64 x.pos), (2, .agg #[.int .i64 x.within.days, .bool x.within.bus, .string ⟨x.within.name.toArray⟩]), (3, .agg #[.int .i64 x.grace.days, .bool x.grace.bus, .string ⟨x.grace.name.toArray⟩]), (4, .agg (clv ce (.slice As x.conds.length cs)).toArray)] ?_ (.agg (csv x ce (.slice As x.conds.length cs)).toArray) (build_csym x _ _ _) ?_
                  · first | rfl | simp [Act.eval, Act.put]
                  simp only [Act.put, List.setIfInBounds_toArray, List.set_cons_zero, List.set_cons_succ]
                  refine wpList_store_row rfl 71 _ _ rfl (W.heap.size + 1) (csv x ce (.slice As x.conds.length cs)).toArray rfl rfl 71 cs0.toArray HL7.out.lk.rb (info_csv _ _ _) (size_csv _ _ _) (one_csv _ _ _ _ _) ?_
                  simp only [Act.put, List.setIfInBounds_toArray, List.set_cons_zero, List.set_cons_succ]
                  obtain ⟨w9, hw9⟩ : ∃ w9, wc.setRow (W.heap.size + 1) (csv x ce (.slice As x.conds.length cs)).toArray = w9 := ⟨_, rfl⟩
                  rw [hw9]
                  have hfr : Fr (fun j => j = W.heap.size + 1) wc w9 := by rw [← hw9]; exact (Fr.refl (fun j => j = W.heap.size + 1) wc).setRow (.inl rfl) _
                  have HB9 : Hid (w9.heap[W.heap.size + 1]? = some (.cells (csv x ce (.slice As x.conds.length cs)).toArray 71 (0, 0))) := by rw [← hw9]; exact blk_row HL7.out.lk.rb _
                  have HF9 := Lib.hid hfr
                  clear hw9 hfr d1 d2 d7 d8 d9 d10 d11 d12
                  go_wp2_with fail
                  have HB10 : Hid (w9.heap[W.heap.size + 1]? = some (.cells (csv x (clauseOf t x) (.slice As x.conds.length cs)).toArray 71 (0, 0))) := by
                    have := HB9.out
                    rw [HCE.out] at this
                    exact this
                  refine bodyPost_ret (v := .agg (csv x (clauseOf t x) (.slice As x.conds.length cs)).toArray) (results_blk Tryd.results48 rfl HB10.out Tryd.underlying71 rfl (info_csv _ _ _)) rfl ⟨⟨.slice As x.conds.length cs, rfl, ?_⟩, ?_, ?_⟩
                  · have := own_base (own_fr HL7.out.own HF9.out (fun j hj _ e => by have := HL7.out.lk.ha; omega)) (show W.heap.size ≤ v1.heap.size + 1 by omega)
                    show World.ownsRow _ _ _ _ _ _ ((x.conds.map (condOf t)).flatMap condv)
                    rw [List.flatMap_map]
                    exact this
                  · have e : (ok && clauseOk t x) = (ok && !bad x && (decide (x.kind = 12) || has t 2 x.of_) && has t 4 x.act && x.conds.all (fun c => has t 5 c.name) && haso t 4 x.by_ && haso t 4 x.til && (decide (x.unit = []) || has t 3 x.unit && has t 2 x.to_)) := by unfold clauseOk bad; simp [Bool.and_assoc]
                    rw [e]
                    exact HL7.out.lk.ls.fr HF9.out (fun j hj => by omega)
                  · exact HL7.out.lk.fr.trans' HF9.out (fun j hj e => by omega)

end Go.Proofs.YtdhjibnkebbejaaDoor.Rs
