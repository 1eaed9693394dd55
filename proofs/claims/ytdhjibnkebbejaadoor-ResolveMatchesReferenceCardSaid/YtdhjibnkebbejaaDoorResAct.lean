/-
  The lookup of an item's names: what its method act returns.
-/
import Derived.Test.YtdhjibnkebbejaaDoorResUnit
namespace Go.Proofs.YtdhjibnkebbejaaDoor.Rs
open Go.RowKit Mem Vw
set_option linter.unusedVariables false
set_option linter.unusedSimpArgs false

/-- A method of the lookup at work: its item, its variable, its result, the lookup. -/
structure LkS (t : Tab) (B q l : Nat) (x : Item) (s : Sl) (w0 : World) (a T : Nat) (cs : List Value) (TR : Nat) (rs : List Value) (ok : Bool) (W : World) : Prop where
  ib : IB w0.heap.size x s W
  ab : W.heap[a]? = some (.cells cs.toArray T (0, 0))
  rb : W.heap[w0.heap.size + 1]? = some (.cells rs.toArray TR (0, 0))
  ls : LS t B q l ok W
  fr : Fr (fun k => k = l) w0 W
  hl : l < w0.heap.size
  ha : w0.heap.size + 1 < a
section
variable {t : Tab} {B q l : Nat} {x : Item} {s : Sl} {w0 W W' : World} {a T : Nat} {cs : List Value} {TR : Nat} {rs : List Value} {ok ok' : Bool}
theorem LkS.call (h : LkS t B q l x s w0 a T cs TR rs ok W) (hL : LS t B q l ok' W') (hF : Fr (fun k => k = l) W W') : LkS t B q l x s w0 a T cs TR rs ok' W' :=
  ⟨hF.blk h.ib (by have := h.hl; omega), hF.blk h.ab (by have := h.hl; have := h.ha; omega), hF.blk h.rb (by have := h.hl; omega), hL, h.fr.trans hF, h.hl, h.ha⟩
theorem LkS.drew (h : LkS t B q l x s w0 a T cs TR rs ok W) : LkS t B q l x s w0 a T cs TR rs ok W.drew := h.call h.ls.drew (Fr.refl _ W).drew
theorem LkS.set (h : LkS t B q l x s w0 a T cs TR rs ok W) (i : Nat) (v : Value) : LkS t B q l x s w0 a T (cs.set i v) TR rs ok (W.setCell ⟨a, i, none⟩ v) := by
  have h1 := h.hl
  have h2 := h.ha
  refine ⟨blk_farq h.ib (by omega) _, ?_, blk_farq h.rb (by omega) _, h.ls.setc (by omega) _ _, h.fr.setCell (.inr (by show _ ≤ a; omega)) _, h1, h2⟩
  have := blk_set h.ab i v
  rwa [List.setIfInBounds_toArray] at this
/-- Blocks beside it. -/
theorem LkS.alloc (h : LkS t B q l x s w0 a T cs TR rs ok W) (o : Obj) : LkS t B q l x s w0 a T cs TR rs ok (W.alloc o) := h.call (h.ls.alloc o) ((Fr.refl _ W).alloc o)
theorem LkS.va (h : LkS t B q l x s w0 a T cs TR rs ok W) (i : Nat) {v : Value} (hv : cs[i]? = some v) : W.cell? ⟨a, i, none⟩ = some v ∧ W.frozen? ⟨a, i, none⟩ = false :=
  ⟨(cell_of_blk h.ab i).trans (by simpa using hv), froz_of_blk h.ab i⟩
theorem LkS.vr (h : LkS t B q l x s w0 a T cs TR rs ok W) (i : Nat) {v : Value} (hv : rs[i]? = some v) : W.cell? ⟨w0.heap.size + 1, i, none⟩ = some v ∧ W.frozen? ⟨w0.heap.size + 1, i, none⟩ = false :=
  ⟨(cell_of_blk h.rb i).trans (by simpa using hv), froz_of_blk h.rb i⟩
theorem LkS.vi (h : LkS t B q l x s w0 a T cs TR rs ok W) (i : Nat) {v : Value} (hv : (ic (x, s))[i]? = some v) : W.cell? ⟨w0.heap.size, i, none⟩ = some v :=
  (cell_of_blk h.ib i).trans (by simpa using hv)
theorem LkS.alt (h : LkS t B q l x s w0 a T cs TR rs ok W) : a < W.heap.size := lt_of_blk h.ab
end
theorem index_lk {t : Tab} {B q l : Nat} {x : Item} {s : Sl} {w0 : World} {a T : Nat} {cs : List Value} {TR : Nat} {rs : List Value} {ok : Bool} {W : World} (g : Nat) (n : Bytes) (h1 : 1 ≤ g) (h5 : g ≤ 5) (h : LkS t B q l x s w0 a T cs TR rs ok W) :
    Calls Tryd.prog 45 #[.pointer (some ⟨l, 0, none⟩), .int .i64 (g : Int), .string ⟨n.toArray⟩] W fun e w' => e = .returned (.int .i64 (ix t g n)) ∧ LkS t B q l x s w0 a T cs TR rs (ok && has t g n) w' :=
  (index_ls g n h1 h5 h.ls).mono fun e w' ⟨he, hL, hF⟩ => ⟨he, h.call hL hF⟩
theorem optional_lk {t : Tab} {B q l : Nat} {x : Item} {s : Sl} {w0 : World} {a T : Nat} {cs : List Value} {TR : Nat} {rs : List Value} {ok : Bool} {W : World} (g : Nat) (n : Bytes) (h1 : 1 ≤ g) (h5 : g ≤ 5) (h : LkS t B q l x s w0 a T cs TR rs ok W) :
    Calls Tryd.prog 59 #[.pointer (some ⟨l, 0, none⟩), .int .i64 (g : Int), .string ⟨n.toArray⟩] W fun e w' => e = .returned (.int .i64 (ixo t g n)) ∧ LkS t B q l x s w0 a T cs TR rs (ok && haso t g n) w' :=
  (optional_ls g n h1 h5 h.ls).mono fun e w' ⟨he, hL, hF⟩ => ⟨he, h.call hL hF⟩
theorem ne_yes {l : Bytes} (h : (!List.isEmpty l) = true) : l ≠ [] := by simpa using h
theorem ne_no {l : Bytes} (h : (!List.isEmpty l) = false) : l = [] := by simpa using h
theorem ixo_ne {t : Tab} {g : Nat} {n : Bytes} (h : n ≠ []) : ixo t g n = ix t g n := if_neg h
theorem haso_ne {t : Tab} {g : Nat} {n : Bytes} (h : n ≠ []) : haso t g n = has t g n := by unfold haso; simp [h]
theorem haso_nil {t : Tab} {g : Nat} : haso t g [] = true := by unfold haso; simp
def actv (c : ActType) : List Value := [nv c.kind, nv c.role, nv c.give, nv c.to_, nv c.unit, nv c.lot.num, nv c.lot.den]
def act0 : List Value := [nv 0, nv 0, nv 0, nv 0, nv 0, nv 0, nv 0]
set_option maxRecDepth 100000 in
set_option maxHeartbeats 2000000 in
theorem act_any (t : Tab) (B q l : Nat) (x : Item) (s : Sl) (ok : Bool) (W : World) (h : LS t B q l ok W) :
    Calls Tryd.prog 47 #[.pointer (some ⟨l, 0, none⟩), .agg (ic (x, s)).toArray] W fun e w' => e = .returned (.agg (actv (actOf t x)).toArray) ∧ LS t B q l (ok && actOk t x) w' ∧ Fr (fun k => k = l) W w' := by
  have hll := h.lt
  have HL := Lib.hid h; clear h
  obtain ⟨u0, HU⟩ : ∃ u0, Hid (((W.alloc (.cells (ic (x, s)).toArray 55)).alloc (.cells #[.int .i64 0, .int .i64 0, .int .i64 0, .int .i64 0, .int .i64 0, .int .i64 0, .int .i64 0] 63)) = u0) := ⟨_, rfl⟩
  have HI : Hid (IB W.heap.size x s u0) := by rw [← HU.out]; exact blk_alloc (blk_newn rfl) _
  have HR : Hid (u0.heap[W.heap.size + 1]? = some (.cells act0.toArray 63 (0, 0))) := by rw [← HU.out]; exact blk_newn (by simp)
  have HF : Hid (Fr (fun k => k = l) W u0) := by rw [← HU.out]; exact ((Fr.refl _ W).alloc _).alloc _
  have HLu : Hid (LS t B q l ok u0) := by rw [← HU.out]; exact (HL.out.alloc _).alloc _
  have hlt : W.heap.size + 1 < u0.heap.size := lt_of_blk HR.out
  have hlt0 : W.heap.size < u0.heap.size := by omega
  have k5 : u0.cell? ⟨W.heap.size, 5, none⟩ = some (.int .i64 x.word) := cell_of_blk HI.out 5
  have k3 : u0.cell? ⟨W.heap.size, 3, none⟩ = some (.string ⟨x.of_.toArray⟩) := cell_of_blk HI.out 3
  go_enter Tryd.func47, Tryd.ntmps47
  go_upto_region 1 with fail
  rw [HU.out]
  go_upto_if 12 with fail
  go_cut [] (fun wx => Hid (LkS t B q l x s W u0.heap.size 63 (actv ⟨x.word, ixo t 2 x.of_, 0, 0, -1, ⟨0, 1⟩⟩) 63 act0 (ok && haso t 2 x.of_) wx))
  case first =>
    have HS0 : Hid (LkS t B q l x s W u0.heap.size 63 (actv ⟨x.word, -1, 0, 0, -1, ⟨0, 1⟩⟩) 63 act0 ok (u0.alloc (.cells (actv ⟨x.word, -1, 0, 0, -1, ⟨0, 1⟩⟩).toArray 63))) :=
      ⟨blk_alloc HI.out _, blk_newn rfl, blk_alloc HR.out _, HLu.out.alloc _, HF.out.alloc _, hll, hlt⟩
    clear HI HR HF HLu HL HU
    go_wp2_with fail
    · have hne := ne_yes (by assumption)
      refine (index_lk 2 x.of_ (by omega) (by omega) HS0.out).mono ?_
      rintro e w1 ⟨rfl, h1⟩
      have HS1 := Lib.hid h1; clear h1
      obtain ⟨a1, b1⟩ := HS1.out.va 1 rfl
      have HN : Hid (LkS t B q l x s W u0.heap.size 63 (actv ⟨x.word, ixo t 2 x.of_, 0, 0, -1, ⟨0, 1⟩⟩) 63 act0 (ok && haso t 2 x.of_) (w1.setCell ⟨u0.heap.size, 1, none⟩ (.int .i64 (ix t 2 x.of_)))) := by
        rw [ixo_ne hne, haso_ne hne]
        exact HS1.out.set 1 _
      clear hne
      go_wp2_with fail
      go_meet
      exact HN
    · have hne := ne_no (by assumption)
      have HN : Hid (LkS t B q l x s W u0.heap.size 63 (actv ⟨x.word, ixo t 2 x.of_, 0, 0, -1, ⟨0, 1⟩⟩) 63 act0 (ok && haso t 2 x.of_) (u0.alloc (.cells (actv ⟨x.word, -1, 0, 0, -1, ⟨0, 1⟩⟩).toArray 63))) := by
        rw [hne, haso_nil, Bool.and_true]
        exact HS0.out
      clear hne
      go_meet
      exact HN
  case rest =>
    have HS := Lib.hid hcut.out
    clear hcut HI HR HF HLu HL HU k5 k3
    obtain ⟨v1, rfl⟩ : ∃ v : World, v = wc := ⟨_, rfl⟩
    have i5 : v1.cell? ⟨W.heap.size, 5, none⟩ = some (.int .i64 x.word) := HS.out.vi 5 rfl
    go_upto_region 4 with fail
    go_cut [25] (fun s25 wx => s25 = .bool (gives x) ∧ wx = v1)
    case first =>
      by_cases h2 : x.word = 2
      · have e : gives x = true := by unfold gives; simp [h2]
        rw [h2] at i5
        have E := Lib.hid e; clear e h2
        go_wp2_with fail
        go_meet
        exact ⟨by rw [E.out], rfl⟩
      · by_cases h3 : x.word = 3
        · have e : gives x = true := by unfold gives; simp [h3]
          rw [h3] at i5
          have E := Lib.hid e; clear e h2 h3
          go_wp2_with fail
          go_meet
          exact ⟨by rw [E.out], rfl⟩
        · have e : gives x = false := by unfold gives; simp [h2, h3]
          have E := Lib.hid e; clear e
          go_wp2_with fail
          go_meet
          exact ⟨by rw [E.out]; first | rfl | simp [h2, h3], rfl⟩
    case rest =>
      obtain ⟨rfl, rfl⟩ := hcut
      clear i5
      cases hg : gives x with
      | true =>
        have E1 := Lib.hid (show actOf t x = ⟨x.word, ixo t 2 x.of_, ix t 2 x.give, ix t 1 x.to_, -1, ⟨0, 1⟩⟩ from if_pos hg)
        have E2 : Hid ((ok && actOk t x) = ((ok && haso t 2 x.of_ && has t 2 x.give) && has t 1 x.to_)) := by
          show _ = _
          unfold actOk; rw [if_pos hg]; simp [Bool.and_assoc]
        clear hg
        have i21 : wc.cell? ⟨W.heap.size, 21, none⟩ = some (.string ⟨x.give.toArray⟩) := HS.out.vi 21 rfl
        go_wp2_with fail
        refine (index_lk 2 x.give (by omega) (by omega) HS.out).mono ?_
        rintro e w1 ⟨rfl, h1⟩
        have HS1 := Lib.hid h1; clear h1 i21 HS
        have i22 : w1.cell? ⟨W.heap.size, 22, none⟩ = some (.string ⟨x.to_.toArray⟩) := HS1.out.vi 22 rfl
        obtain ⟨a2, af2⟩ := HS1.out.va 2 rfl
        have HS2 := Lib.hid (HS1.out.set 2 (nv (ix t 2 x.give)))
        go_wp2_with fail
        refine (index_lk 1 x.to_ (by omega) (by omega) HS2.out).mono ?_
        rintro e w2 ⟨rfl, h1⟩
        have HS3 := Lib.hid h1; clear h1 i22 HS1 HS2 a2 af2
        obtain ⟨a0, af0⟩ := HS3.out.va 0 rfl; obtain ⟨a1, af1⟩ := HS3.out.va 1 rfl; obtain ⟨a2, af2⟩ := HS3.out.va 2 rfl; obtain ⟨a3, af3⟩ := HS3.out.va 3 rfl; obtain ⟨a4, af4⟩ := HS3.out.va 4 rfl; obtain ⟨a5, af5⟩ := HS3.out.va 5 rfl; obtain ⟨a6, af6⟩ := HS3.out.va 6 rfl
        obtain ⟨r0, rf0⟩ := HS3.out.vr 0 rfl; obtain ⟨r1, rf1⟩ := HS3.out.vr 1 rfl; obtain ⟨r2, rf2⟩ := HS3.out.vr 2 rfl; obtain ⟨r3, rf3⟩ := HS3.out.vr 3 rfl; obtain ⟨r4, rf4⟩ := HS3.out.vr 4 rfl; obtain ⟨r5, rf5⟩ := HS3.out.vr 5 rfl; obtain ⟨r6, rf6⟩ := HS3.out.vr 6 rfl
        dsimp only [nv, sv] at a0 a1 a2 a3 a4 a5 a6 r0 r1 r2 r3 r4 r5 r6
        go_wp2_with fail
        refine bodyPost_ret (v := .agg (actv ⟨x.word, ixo t 2 x.of_, ix t 2 x.give, ix t 1 x.to_, -1, ⟨0, 1⟩⟩).toArray) (by simp [results, Tryd.results47, go_sem, actv, sv, nv, r0, r1, r2, r3, r4, r5, r6]) rfl ⟨by rw [E1.out], ?_, ?_⟩
        · rw [E2.out]
          repeat refine LS.setc ?_ (by omega) _ _
          exact HS3.out.ls
        · repeat refine Fr.setCell ?_ (.inr (by first | omega | (show _ ≤ u0.heap.size; omega) | (show _ ≤ W.heap.size + 1; omega))) _
          exact HS3.out.fr
      | false =>
        have i22 : wc.cell? ⟨W.heap.size, 22, none⟩ = some (.string ⟨x.to_.toArray⟩) := HS.out.vi 22 rfl
        by_cases hu : x.unit = []
        · have E1 := Lib.hid (show actOf t x = ⟨x.word, ixo t 2 x.of_, 0, ixo t 2 x.to_, -1, ⟨0, 1⟩⟩ from (if_neg (by rw [hg]; simp)).trans (if_pos hu))
          have E2 : Hid ((ok && actOk t x) = ((ok && haso t 2 x.of_) && haso t 2 x.to_)) := by
            show _ = _
            unfold actOk; rw [if_neg (by rw [hg]; simp), hu, haso_nil]; simp [Bool.and_assoc]
          have HUN : Hid (x.unit = []) := hu
          clear hg hu
          go_wp2_with fail
          refine (optional_lk 2 x.to_ (by omega) (by omega) HS.out).mono ?_
          rintro e w1 ⟨rfl, h1⟩
          have HS1 := Lib.hid h1; clear h1 i22 HS
          have i18 : w1.cell? ⟨W.heap.size, 18, none⟩ = some (.string ⟨x.unit.toArray⟩) := HS1.out.vi 18 rfl
          rw [HUN.out] at i18
          have HS2 := Lib.hid (HS1.out.set 3 (nv (ixo t 2 x.to_)))
          obtain ⟨a0, af0⟩ := HS1.out.va 0 rfl; obtain ⟨a1, af1⟩ := HS1.out.va 1 rfl; obtain ⟨a2, af2⟩ := HS1.out.va 2 rfl; obtain ⟨a3, af3⟩ := HS1.out.va 3 rfl; obtain ⟨a4, af4⟩ := HS1.out.va 4 rfl; obtain ⟨a5, af5⟩ := HS1.out.va 5 rfl; obtain ⟨a6, af6⟩ := HS1.out.va 6 rfl
          obtain ⟨r0, rf0⟩ := HS1.out.vr 0 rfl; obtain ⟨r1, rf1⟩ := HS1.out.vr 1 rfl; obtain ⟨r2, rf2⟩ := HS1.out.vr 2 rfl; obtain ⟨r3, rf3⟩ := HS1.out.vr 3 rfl; obtain ⟨r4, rf4⟩ := HS1.out.vr 4 rfl; obtain ⟨r5, rf5⟩ := HS1.out.vr 5 rfl; obtain ⟨r6, rf6⟩ := HS1.out.vr 6 rfl
          dsimp only [nv, sv] at a0 a1 a2 a3 a4 a5 a6 r0 r1 r2 r3 r4 r5 r6
          go_wp2_with fail
          refine bodyPost_ret (v := .agg (actv ⟨x.word, ixo t 2 x.of_, 0, ixo t 2 x.to_, -1, ⟨0, 1⟩⟩).toArray) (by simp [results, Tryd.results47, go_sem, actv, sv, nv, r0, r1, r2, r3, r4, r5, r6]) rfl ⟨by rw [E1.out], ?_, ?_⟩
          · rw [E2.out]
            repeat refine LS.setc ?_ (by omega) _ _
            exact HS1.out.ls
          · repeat refine Fr.setCell ?_ (.inr (by first | omega | (show _ ≤ u0.heap.size; omega) | (show _ ≤ W.heap.size + 1; omega))) _
            exact HS1.out.fr
        · have E1 := Lib.hid (show actOf t x = ⟨x.word, ixo t 2 x.of_, 0, ixo t 2 x.to_, ix t 3 x.unit, x.num⟩ from (if_neg (by rw [hg]; simp)).trans (if_neg hu))
          have E2 : Hid ((ok && actOk t x) = (((ok && haso t 2 x.of_) && haso t 2 x.to_) && has t 3 x.unit)) := by
            show _ = _
            unfold actOk; rw [if_neg (by rw [hg]; simp), haso_ne hu]; simp [Bool.and_assoc]
          have hb : (x.unit == []) = false := by simpa using hu
          clear hg hu
          go_wp2_with fail
          refine (optional_lk 2 x.to_ (by omega) (by omega) HS.out).mono ?_
          rintro e w1 ⟨rfl, h1⟩
          have HS1 := Lib.hid h1; clear h1 i22 HS
          have i18 : w1.cell? ⟨W.heap.size, 18, none⟩ = some (.string ⟨x.unit.toArray⟩) := HS1.out.vi 18 rfl
          have HS2 := Lib.hid (HS1.out.set 3 (nv (ixo t 2 x.to_)))
          obtain ⟨a3, af3⟩ := HS1.out.va 3 rfl
          go_wp2_with fail
          refine Reg.G.start (by kernel_rfl) ?_
          refine' Reg.G.pure (i := 0) (v := _) rfl rfl (by kernel_rfl) (by kernel_rfl) (by kernel_rfl) (fun _ _ _ h => h) ?hyr10_0 ?rer10_0
          case hyr10_0 => exact fun w => by first | (go_simp; done) | (go_simp; with_reducible rfl)
          simp only [Act.put, List.setIfInBounds_toArray, List.set_cons_zero, List.set_cons_succ]
          refine' Reg.G.pure (i := 1) (v := _) rfl rfl (by kernel_rfl) (by kernel_rfl) (by kernel_rfl) (fun _ _ _ h => h) ?hyr10_1 ?rer10_1
          case hyr10_1 => exact fun w => by first | (go_simp; done) | (go_simp; with_reducible rfl)
          simp only [Act.put, List.setIfInBounds_toArray, List.set_cons_zero, List.set_cons_succ]
          refine' Reg.G.take (i := 2) (v := _) (F := fun w => IB W.heap.size x s w) rfl rfl (by kernel_rfl) (by kernel_rfl) (by kernel_rfl) (fun _ _ _ h => h) (HS2.out.ib) ?hyr10_2 ?rer10_2
          case hyr10_2 => intro w hw; have k : w.cell? ⟨W.heap.size, 18, none⟩ = some (.string ⟨x.unit.toArray⟩) := cell_of_blk hw 18; clear hw; first | (go_simp; done) | (go_simp; with_reducible rfl)
          simp only [Act.put, List.setIfInBounds_toArray, List.set_cons_zero, List.set_cons_succ]
          refine' Reg.G.pure (i := 4) (v := _) rfl rfl (by kernel_rfl) (by kernel_rfl) (by kernel_rfl) (fun _ _ _ h => h) ?hyr10_4 ?rer10_4
          case hyr10_4 => exact fun w => by first | (go_simp; done) | (go_simp; with_reducible rfl)
          simp only [Act.put, List.setIfInBounds_toArray, List.set_cons_zero, List.set_cons_succ]
          refine' Reg.G.take (i := 5) (v := _) (F := fun w => IB W.heap.size x s w) rfl rfl (by kernel_rfl) (by kernel_rfl) (by kernel_rfl) (fun _ _ _ h => h) (HS2.out.ib) ?hyr10_5 ?rer10_5
          case hyr10_5 => intro w hw; have k : w.cell? ⟨W.heap.size, 16, none⟩ = some (.int .i64 x.num.num) := cell_of_blk hw 16; have k2 : w.cell? ⟨W.heap.size, 17, none⟩ = some (.int .i64 x.num.den) := cell_of_blk hw 17; clear hw; first | (go_simp; done) | (go_simp; with_reducible rfl)
          simp only [Act.put, List.setIfInBounds_toArray, List.set_cons_zero, List.set_cons_succ]
          refine Reg.G.step (j := 3) (m := [true, false]) [5, 2] rfl (by kernel_rfl) rfl (by kernel_rfl) (fun K hK => ?_)
          -- Op.call { callee := Callee.value (func 45), args := #[t45, const (int IntKind.i64 3), t47], argTypes := #[125, 3, 9] }
          go_simp
          refine (index_lk 3 x.unit (by omega) (by omega) HS2.out.drew).mono ?_
          rintro e w2 ⟨rfl, h1⟩
          have HS3 := Lib.hid h1; clear h1 i18 HS1 HS2 a3 af3
          have HS5 := Lib.hid (HS3.out.set 4 (nv (ix t 3 x.unit)))
          obtain ⟨b4, bf4⟩ := HS3.out.va 4 rfl
          obtain ⟨b5, bf5⟩ := HS3.out.va 5 rfl
          obtain ⟨b6, bf6⟩ := HS3.out.va 6 rfl
          dsimp only [nv] at b4 b5 b6
          refine hK.out _ _ ⟨HS3.out.ib, trivial⟩ ?_
          clear hK K
          simp only [Act.put, List.setIfInBounds_toArray, List.set_cons_zero, List.set_cons_succ, Reg.Kept]
          refine' Reg.G.pure (i := 6) (v := _) rfl rfl (by kernel_rfl) (by kernel_rfl) (by kernel_rfl) (fun _ _ _ h => h) ?hyr10_6 ?rer10_6
          case hyr10_6 => exact fun w => by first | (go_simp; done) | (go_simp; with_reducible rfl)
          simp only [Act.put, List.setIfInBounds_toArray, List.set_cons_zero, List.set_cons_succ]
          refine Reg.G.step (j := 7) (m := [true]) [5] rfl (by kernel_rfl) rfl (by kernel_rfl) (fun K hK => ?_)
          -- Op.store 3 (t51) (t48)
          go_simp
          refine hK.out _ _ ⟨HS5.out.ib, trivial⟩ ?_
          clear hK K
          simp only [Act.put, List.setIfInBounds_toArray, List.set_cons_zero, List.set_cons_succ, Reg.Kept]
          refine' Reg.G.pure (i := 8) (v := _) rfl rfl (by kernel_rfl) (by kernel_rfl) (by kernel_rfl) (fun _ _ _ h => h) ?hyr10_8 ?rer10_8
          case hyr10_8 => exact fun w => by first | (go_simp; done) | (go_simp; with_reducible rfl)
          simp only [Act.put, List.setIfInBounds_toArray, List.set_cons_zero, List.set_cons_succ]
          refine Reg.G.step (j := 9) (m := [false]) [5] rfl (by kernel_rfl) rfl (by kernel_rfl) (fun K hK => ?_)
          -- Op.store 52 (t52) (t50)
          go_simp
          refine hK.out _ _ trivial ?_
          clear hK K
          simp only [Act.put, List.setIfInBounds_toArray, List.set_cons_zero, List.set_cons_succ, Reg.Kept]
          refine Reg.G.done (by kernel_rfl) ?_
          clear b4 bf4 b5 bf5 b6 bf6
          obtain ⟨a0, af0⟩ := HS3.out.va 0 rfl; obtain ⟨a1, af1⟩ := HS3.out.va 1 rfl; obtain ⟨a2, af2⟩ := HS3.out.va 2 rfl; obtain ⟨a3, af3⟩ := HS3.out.va 3 rfl; obtain ⟨a4, af4⟩ := HS3.out.va 4 rfl; obtain ⟨a5, af5⟩ := HS3.out.va 5 rfl; obtain ⟨a6, af6⟩ := HS3.out.va 6 rfl
          obtain ⟨r0, rf0⟩ := HS3.out.vr 0 rfl; obtain ⟨r1, rf1⟩ := HS3.out.vr 1 rfl; obtain ⟨r2, rf2⟩ := HS3.out.vr 2 rfl; obtain ⟨r3, rf3⟩ := HS3.out.vr 3 rfl; obtain ⟨r4, rf4⟩ := HS3.out.vr 4 rfl; obtain ⟨r5, rf5⟩ := HS3.out.vr 5 rfl; obtain ⟨r6, rf6⟩ := HS3.out.vr 6 rfl
          dsimp only [nv, sv] at a0 a1 a2 a3 a4 a5 a6 r0 r1 r2 r3 r4 r5 r6
          go_wp2_with fail
          refine bodyPost_ret (v := .agg (actv ⟨x.word, ixo t 2 x.of_, 0, ixo t 2 x.to_, ix t 3 x.unit, x.num⟩).toArray) (by simp [results, Tryd.results47, go_sem, actv, sv, nv, r0, r1, r2, r3, r4, r5, r6]) rfl ⟨by rw [E1.out], ?_, ?_⟩
          · rw [E2.out]
            repeat refine LS.setc ?_ (by omega) _ _
            exact HS3.out.ls
          · repeat refine Fr.setCell ?_ (.inr (by first | omega | (show _ ≤ u0.heap.size; omega) | (show _ ≤ W.heap.size + 1; omega))) _
            exact HS3.out.fr
end Go.Proofs.YtdhjibnkebbejaaDoor.Rs
