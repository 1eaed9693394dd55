/-
  Include: the function that instantiates the items of a template.
-/
import Derived.Test.YticakdajhmfpoaaIncIns
import Derived.Laws.EntriesVeiled
namespace Go.Proofs.Yticakdajhmfpoaa.Ic
open Go.RowKit Mem Vw Rs
open Go.ChangeMaps (setBlock)
set_option linter.unusedVariables false
set_option linter.unusedSimpArgs false

theorem cell_fr {w w' : World} {g o : Nat} {v : Value} (hf : Fr (fun _ => False) w w') (h : w.cell? ⟨g, o, none⟩ = some v) : w'.cell? ⟨g, o, none⟩ = some v := by
  have hg := lt_of_cell h
  have hb := hf.block g hg (fun h => h)
  unfold World.cell? at h ⊢
  simpa only [hb] using h
/-- The blocks that an instantiation captured. -/
structure IG where
  gp : Nat
  gr : Nat
  ga : Nat
  gl : Nat
  gx : Nat
  m : Nat
  g1 : Nat
  g2 : Nat
  m1 : Nat
  m2 : Nat
structure IG.ge (q : IG) (lo : Nat) : Prop where
  gp : lo ≤ q.gp
  gr : lo ≤ q.gr
  ga : lo ≤ q.ga
  gl : lo ≤ q.gl
  gx : lo ≤ q.gx
  m : lo ≤ q.m
  g1 : lo ≤ q.g1
  g2 : lo ≤ q.g2
  m1 : lo ≤ q.m1
  m2 : lo ≤ q.m2
structure InsF (ps ag : List Rs.Bytes) (x : DT) (l : List DT) (q : IG) (w : World) : Prop where
  p : w.heap[q.gp]? = some (.cells #[.func (.func 48) #[] #[.pointer (some ⟨q.gx, 0, none⟩)]] 75 (0, 0))
  r : w.heap[q.gr]? = some (.cells #[.func (.func 46) #[] #[.pointer (some ⟨q.ga, 0, none⟩)]] 75 (0, 0))
  a : w.heap[q.ga]? = some (.cells #[.map (some q.m)] 90 (0, 0))
  mp : Mp.MapF w q.m (argF ps ag)
  lc : w.heap[q.gl]? = some (.cells #[.func (.func 50) #[] #[.pointer (some ⟨q.g1, 0, none⟩), .pointer (some ⟨q.g2, 0, none⟩)]] 92 (0, 0))
  lo : LocF l q.g1 q.g2 q.m1 q.m2 w
  x : w.heap[q.gx]? = some (.cells x.cells.toArray 41 (0, 0))
theorem InsF.fr {S : Nat → Prop} {ps ag : List Rs.Bytes} {x : DT} {l : List DT} {q : IG} {w w' : World} {lo : Nat} (h : InsF ps ag x l q w) (hf : Fr S w w') (hg : q.ge lo) (hs : ∀ g, lo ≤ g → g < w.heap.size → ¬ S g) : InsF ps ag x l q w' :=
  ⟨hf.blk h.p (hs _ hg.gp (lt_of_blk h.p)), hf.blk h.r (hs _ hg.gr (lt_of_blk h.r)), hf.blk h.a (hs _ hg.ga (lt_of_blk h.a)), h.mp.fr hf (hs _ hg.m h.mp.lt), hf.blk h.lc (hs _ hg.gl (lt_of_blk h.lc)), h.lo.fr hf (hs _ hg.g1 (lt_of_blk h.lo.b1)) (hs _ hg.g2 (lt_of_blk h.lo.b2)) (hs _ hg.m1 h.lo.c.lt) (hs _ hg.m2 h.lo.i.lt), hf.blk h.x (hs _ hg.gx (lt_of_blk h.x))⟩
theorem argF_step {ps ag : List Rs.Bytes} {j : Nat} {p a : Rs.Bytes} (hp : ps[j]? = some p) (ha : ag[j]? = some a) : argF (ps.drop j) (ag.drop j) = if p = [] then argF (ps.drop (j + 1)) (ag.drop (j + 1)) else fun n => if n = p then some (sv a) else argF (ps.drop (j + 1)) (ag.drop (j + 1)) n := by
  obtain ⟨h1, h2⟩ := List.getElem?_eq_some_iff.1 hp
  obtain ⟨h3, h4⟩ := List.getElem?_eq_some_iff.1 ha
  rw [List.drop_eq_getElem_cons h1, h2, List.drop_eq_getElem_cons h3, h4]
  funext n
  unfold argF
  rw [arg]
  by_cases hpe : p = []
  · subst hpe
    rw [if_pos rfl, if_neg (fun e => e.1 e.2.symm)]
  · rw [if_neg hpe]
    by_cases hn : n = p
    · rw [if_pos hn, if_pos ⟨by rw [hn]; exact hpe, hn.symm⟩]; rfl
    · rw [if_neg hn, if_neg (fun e => hn e.2.symm)]
def InsR (t x : DT) (W : World) (iv : Value) (wr : World) : Prop := ∃ k : Nat, iv = .int .i64 ((k : Int) - 1) ∧ k ≤ t.h.names.length ∧ Hid (wr.heap.size = W.heap.size + 4) ∧ Hid (wr.heap[W.heap.size]? = some (.cells t.cells.toArray 41 (0, 0))) ∧ Hid (wr.heap[W.heap.size + 1]? = some (.cells x.cells.toArray 41 (0, 0))) ∧ Hid (wr.heap[W.heap.size + 3]? = some (.cells #[.map (some (W.heap.size + 2))] 90 (0, 0))) ∧ Hid (Mp.MapF wr (W.heap.size + 2) (argF (t.h.names.drop k) (x.h.names.drop k))) ∧ Hid (Fr (fun _ => False) W wr)
set_option maxRecDepth 100000 in
set_option maxHeartbeats 8000000 in
theorem instantiation_any (t x : DT) (W : World) (ht : Lay (fun g => g < W.heap.size) W t) (hx : Lay (fun g => g < W.heap.size) W x) (hn : x.h.names.length = t.h.names.length) (hl : t.l.length ≤ 1000000) (hnl : t.h.names.length ≤ 1000000) :
    Calls Try.prog 39 #[.agg t.cells.toArray, .agg x.cells.toArray] W fun e w' => ∃ q : IG, e = .returned (.func (.func 49) #[] #[.pointer (some ⟨q.gp, 0, none⟩), .pointer (some ⟨q.gr, 0, none⟩), .pointer (some ⟨q.ga, 0, none⟩), .pointer (some ⟨q.gl, 0, none⟩)]) ∧ InsF t.h.names x.h.names x t.l q w' ∧ q.ge W.heap.size ∧ Fr (fun _ => False) W w' := by
  have hmm := @run_makeMap Try.prog
  obtain ⟨w0, HW0⟩ : ∃ w0, Hid ((W.alloc (.cells t.cells.toArray 41)).alloc (.cells x.cells.toArray 41) = w0) := ⟨_, rfl⟩
  have S0 : Hid (w0.heap.size = W.heap.size + 2) := by show _ = _; rw [← HW0.out]; simp
  have HF0 : Hid (Fr (fun _ => False) W w0) := by rw [← HW0.out]; exact ((Fr.refl _ W).alloc _).alloc _
  have HT0 : Hid (w0.heap[W.heap.size]? = some (.cells t.cells.toArray 41 (0, 0))) := by rw [← HW0.out]; exact blk_alloc (blk_newn rfl) _
  have HX0 : Hid (w0.heap[W.heap.size + 1]? = some (.cells x.cells.toArray 41 (0, 0))) := by rw [← HW0.out]; exact blk_newn (by simp)
  have HLT := Lib.hid ht; have HLX := Lib.hid hx; have HNN := Lib.hid hn; have HLL := Lib.hid hl; have HNL := Lib.hid hnl
  obtain ⟨An, cn, htn, ht1, ht2⟩ := ht.names.slice
  obtain ⟨Ax, cx, hxn, hx1, hx2⟩ := hx.names.slice
  rw [List.length_map] at htn hxn
  rw [hn] at hxn
  have HTN := Lib.hid htn; have HXN := Lib.hid hxn
  have hzl : t.h.names.length ≤ 9223372036854775807 := by omega
  clear ht hx hn hl htn hxn ht1 ht2 hx1 hx2
  go_enter Try.func39, Try.ntmps39
  go_upto_region 1 with fail
  rw [HW0.out]
  go_upto_region 2 with fail
  clear hmm HW0
  rw [S0.out]
  obtain ⟨w1, hw1⟩ : ∃ w, (w0.alloc (.map #[] 0)).alloc (.cells #[.map (some (W.heap.size + 2))] 90) = w := ⟨_, rfl⟩
  rw [hw1]
  have S1 : Hid (w1.heap.size = W.heap.size + 4) := by show _ = _; rw [← hw1]; simp [S0.out]
  have HF1 : Hid (Fr (fun _ => False) w0 w1) := by rw [← hw1]; exact ((Fr.refl _ w0).alloc _).alloc _
  have HA1 : Hid (w1.heap[W.heap.size + 3]? = some (.cells #[.map (some (W.heap.size + 2))] 90 (0, 0))) := by rw [← hw1]; exact blk_newn (by simp [S0.out])
  have HM1 : Hid (Mp.MapF w1 (W.heap.size + 2) (argF (t.h.names.drop t.h.names.length) (x.h.names.drop t.h.names.length))) := by
    rw [List.drop_length]
    refine ⟨#[], 0, [], ?_, rfl, List.nodup_nil, rfl⟩
    rw [← hw1]; exact blk_alloc (blk_newn S0.out.symm) _
  have HT1 : Hid (w1.heap[W.heap.size]? = some (.cells t.cells.toArray 41 (0, 0))) := HF1.out.blk HT0.out (fun h => h)
  have HX1 : Hid (w1.heap[W.heap.size + 1]? = some (.cells x.cells.toArray 41 (0, 0))) := HF1.out.blk HX0.out (fun h => h)
  have HFW1 : Hid (Fr (fun _ => False) W w1) := HF0.out.trans HF1.out
  clear hw1 HT0 HX0 HF0 HF1
  have k31 : w1.cell? ⟨W.heap.size, 31, none⟩ = some (.slice An t.h.names.length cn) := by rw [cell_of_blk HT1.out, DT.cells_eq, HTN.out]; rfl
  go_wp2_with fail
  go_loopw [6] (fun iv wr => InsR t x W iv wr) (fun i _ => ((intOf i) + 1).toNat)
  case atStart => exact ⟨t.h.names.length, rfl, Nat.le_refl _, S1, HT1, HX1, HA1, HM1, HFW1⟩
  case round =>
    clear k31 HM1 HA1 HT1 HX1 HFW1
    obtain ⟨k, rfl, hk, HSZ, HT, HX, HA, HM, HF⟩ := hrel
    have k31 : wr.cell? ⟨W.heap.size, 31, none⟩ = some (.slice An t.h.names.length cn) := by rw [cell_of_blk HT.out, DT.cells_eq, HTN.out]; rfl
    cases k with
    | zero =>
      clear k31
      rw [List.drop_zero, List.drop_zero] at HM
      go_upto_region 8 with fail
      obtain ⟨w2, hw2⟩ : ∃ w, wr.alloc (.cells #[.func (.func 46) #[] #[.pointer (some ⟨W.heap.size + 2 + 1, 0, none⟩)]] 75) = w := ⟨_, rfl⟩
      rw [hw2]
      have HR2 : Hid (w2.heap[wr.heap.size]? = some (.cells #[.func (.func 46) #[] #[.pointer (some ⟨W.heap.size + 3, 0, none⟩)]] 75 (0, 0))) := by rw [← hw2]; exact blk_newn rfl
      have HF2 : Hid (Fr (fun _ => False) wr w2) := by rw [← hw2]; exact (Fr.refl _ wr).alloc _
      have HT2 : Hid (w2.heap[W.heap.size]? = some (.cells t.cells.toArray 41 (0, 0))) := HF2.out.blk HT.out (fun h => h)
      have S2 : Hid (w2.heap.size = W.heap.size + 5) := by show _ = _; rw [← hw2]; simp [HSZ.out]
      have HLOC := Lib.hid (locals_any t w2 ((HLT.out.fr (HF.out.trans HF2.out) (fun _ _ h => h)).mono (fun g _ hg => by have := S2.out; omega)) HLL.out)
      clear hw2
      iterate 1 go_step
      refine wpList_load_row rfl 41 _ rfl W.heap.size rfl 41 t.cells.toArray (0, 0) _ HT2.out Try.underlying41 rfl (info_it t) ?_
      simp only [Act.put, List.setIfInBounds_toArray, List.set_cons_zero, List.set_cons_succ]
      go_wp2_with fail
      refine HLOC.out.mono ?_
      rintro e w3 ⟨rfl, hloc, hf3⟩
      have HF3 := Lib.hid hf3; have HL3 := Lib.hid hloc
      clear hf3 hloc HLOC
      go_upto_region 9 with fail
      obtain ⟨w4, hw4⟩ : ∃ w, w3.alloc (.cells #[.func (.func 50) #[] #[.pointer (some ⟨w2.heap.size + 2, 0, none⟩), .pointer (some ⟨w2.heap.size + 4, 0, none⟩)]] 92) = w := ⟨_, rfl⟩
      rw [hw4]
      have HL4 : Hid (w4.heap[w3.heap.size]? = some (.cells #[.func (.func 50) #[] #[.pointer (some ⟨w2.heap.size + 2, 0, none⟩), .pointer (some ⟨w2.heap.size + 4, 0, none⟩)]] 92 (0, 0))) := by rw [← hw4]; exact blk_newn rfl
      have HF4 : Hid (Fr (fun _ => False) w3 w4) := by rw [← hw4]; exact (Fr.refl _ w3).alloc _
      clear hw4
      go_upto_region 10 with fail
      obtain ⟨w5, hw5⟩ : ∃ w, w4.alloc (.cells #[.func (.func 48) #[] #[.pointer (some ⟨W.heap.size + 1, 0, none⟩)]] 75) = w := ⟨_, rfl⟩
      rw [hw5]
      have HP5 : Hid (w5.heap[w4.heap.size]? = some (.cells #[.func (.func 48) #[] #[.pointer (some ⟨W.heap.size + 1, 0, none⟩)]] 75 (0, 0))) := by rw [← hw5]; exact blk_newn rfl
      have HF5 : Hid (Fr (fun _ => False) w4 w5) := by rw [← hw5]; exact (Fr.refl _ w4).alloc _
      clear hw5
      have HN : (fun (_ : Nat) => False) = fun _ => False := rfl
      go_wp2_with fail
      go_ret
      have z2 := S2.out; have z3 := HF3.out.size; have z4 := HF4.out.size; have z5 := HSZ.out
      have F35 : Fr (fun _ => False) w3 w5 := HF4.out.trans HF5.out
      have F25 : Fr (fun _ => False) w2 w5 := HF3.out.trans F35
      have F05 : Fr (fun _ => False) wr w5 := HF2.out.trans F25
      refine ⟨⟨w4.heap.size, wr.heap.size, W.heap.size + 3, w3.heap.size, W.heap.size + 1, W.heap.size + 2, w2.heap.size + 2, w2.heap.size + 4, w2.heap.size + 1, w2.heap.size + 3⟩, rfl, ⟨HP5.out, F25.blk HR2.out (fun h => h), F05.blk HA.out (fun h => h), HM.out.fr F05 (fun h => h), HF5.out.blk HL4.out (fun h => h), HL3.out.fr F35 (fun h => h) (fun h => h) (fun h => h) (fun h => h), F05.blk HX.out (fun h => h)⟩, ⟨?_, ?_, ?_, ?_, ?_, ?_, ?_, ?_, ?_, ?_⟩, HF.out.trans F05⟩
      all_goals (dsimp only; omega)
    | succ j =>
      have ej : ((j + 1 : Nat) : Int) - 1 = (j : Int) := by omega
      rw [ej]
      have i1 : (0 : Int) ≤ (j : Int) := Int.natCast_nonneg _
      have i2 : (j : Int) < (t.h.names.length : Int) := by omega
      obtain ⟨p, hp⟩ : ∃ p, t.h.names[j]? = some p := ⟨_, List.getElem?_eq_getElem (by omega)⟩
      obtain ⟨a, ha⟩ : ∃ a, x.h.names[j]? = some a := ⟨_, List.getElem?_eq_getElem (by have := HNN.out; omega)⟩
      have hrt : RowB (fun g => g < W.heap.size) wr (.slice An t.h.names.length cn) 1 (t.h.names.map fun y => [sv y]) := by rw [← HTN.out]; exact HLT.out.names.fr HF.out (fun _ _ h => h)
      have hrx : RowB (fun g => g < W.heap.size) wr (.slice Ax t.h.names.length cx) 1 (x.h.names.map fun y => [sv y]) := by rw [← HXN.out]; exact HLX.out.names.fr HF.out (fun _ _ h => h)
      obtain ⟨gt, ot, hA1, hg1, hgB1, hat1⟩ := hrt.at (k := j) (x := [sv p]) (by rw [List.getElem?_map, hp]; rfl)
      obtain ⟨gx, ox, hA2, hg2, hgB2, hat2⟩ := hrx.at (k := j) (x := [sv a]) (by rw [List.getElem?_map, ha]; rfl)
      subst hA1 hA2
      have HCP : Hid (∀ w, Fr (fun _ => False) wr w → w.cell? ⟨gt, ot + j, none⟩ = some (.string ⟨p.toArray⟩)) := fun w hf => by
        have := hat1 0 _ rfl
        rw [Nat.mul_one] at this
        exact cell_fr hf this
      have HCX : Hid (∀ w, Fr (fun _ => False) wr w → w.cell? ⟨gx, ox + j, none⟩ = some (.string ⟨a.toArray⟩)) := fun w hf => by
        have := hat2 0 _ rfl
        rw [Nat.mul_one] at this
        exact cell_fr hf this
      have HST := Lib.hid (argF_step hp ha)
      have HKJ := Lib.hid hk
      have kp := HCP.out wr (Fr.refl _ _)
      clear hrt hrx hat1 hat2 hg1 hg2 hgB1 hgB2 hp ha ej hk
      by_cases hpe : p = []
      · have HMN : Hid (Mp.MapF wr (W.heap.size + 2) (argF (t.h.names.drop j) (x.h.names.drop j))) := by rw [HST.out, if_pos hpe]; exact HM.out
        rw [hpe] at kp
        replace kp : wr.cell? ⟨gt, ot + j, none⟩ = some (.string ⟨#[]⟩) := kp
        clear hpe
        go_wp2_with fail
        go_roundw
        case rel => exact ⟨j, by go_num, by have := HKJ.out; omega, HSZ, HT, HX, HA, HMN, HF⟩
        case measure => first | (simp [intOf]; done) | (simp [intOf]; omega)
      · have kb : (p != []) = true := by simpa using hpe
        have kb2 : (p == []) = false := by simpa using hpe
        have HPE := Lib.hid hpe
        clear hpe
        go_upto_region 6 with fail
        clear kp kb kb2 k31
        refine Reg.G.start (by kernel_rfl) ?_
        obtain ⟨wD, hD⟩ : ∃ w, wr.drew = w := ⟨_, rfl⟩
        have HFD : Hid (Fr (fun _ => False) wr wD) := by rw [← hD]; exact (Fr.refl _ wr).drew
        have HSD0 : Hid (wD.heap.size = wr.heap.size) := by show _ = _; rw [← hD]; rfl
        rw [hD]
        clear hD
        refine' Reg.G.take (i := 0) (v := _) (F := (fun w => Fr (fun _ => False) wr w)) rfl (by rfl) (by kernel_rfl) (by kernel_rfl) (by kernel_rfl) (fun _ _ _ h => h) (HFD.out) ?hyi1 ?rehyi1
        case hyi1 => intro w hw; have kc : w.cell? ⟨W.heap.size + 3, 0, none⟩ = some (.map (some (W.heap.size + 2))) := (cell_of_blk (hw.blk HA.out (fun h => h)) 0).trans rfl; clear hw; first | (go_simp; done) | (go_simp; with_reducible rfl)
        simp only [Act.put, List.setIfInBounds_toArray, List.set_cons_zero, List.set_cons_succ]
        refine' Reg.G.pure (i := 1) (v := _) rfl (by rfl) (by kernel_rfl) (by kernel_rfl) (by kernel_rfl) (fun _ _ _ h => h) ?hyi2 ?rehyi2
        case hyi2 => exact fun w => by first | (go_simp; done) | (go_simp; with_reducible rfl)
        simp only [Act.put, List.setIfInBounds_toArray, List.set_cons_zero, List.set_cons_succ]
        refine' Reg.G.take (i := 2) (v := _) (F := (fun w => Fr (fun _ => False) wr w)) rfl (by rfl) (by kernel_rfl) (by kernel_rfl) (by kernel_rfl) (fun _ _ _ h => h) (HFD.out) ?hyi3 ?rehyi3
        case hyi3 => intro w hw; have kc : w.cell? ⟨W.heap.size, 31, none⟩ = some (.slice (some ⟨gt, ot, none⟩) t.h.names.length cn) := by { rw [cell_of_blk (hw.blk HT.out (fun h => h)), DT.cells_eq, HTN.out]; rfl }; clear hw; first | (go_simp; done) | (go_simp; with_reducible rfl)
        simp only [Act.put, List.setIfInBounds_toArray, List.set_cons_zero, List.set_cons_succ]
        refine' Reg.G.pure (i := 3) (v := _) rfl (by rfl) (by kernel_rfl) (by kernel_rfl) (by kernel_rfl) (fun _ _ _ h => h) ?hyi4 ?rehyi4
        case hyi4 => exact fun w => by first | (go_simp; done) | (go_simp; with_reducible rfl)
        simp only [Act.put, List.setIfInBounds_toArray, List.set_cons_zero, List.set_cons_succ]
        refine' Reg.G.pure (i := 4) (v := _) rfl (by rfl) (by kernel_rfl) (by kernel_rfl) (by kernel_rfl) (fun _ _ _ h => h) ?hyi5 ?rehyi5
        case hyi5 => exact fun w => by first | (go_simp; done) | (go_simp; with_reducible rfl)
        simp only [Act.put, List.setIfInBounds_toArray, List.set_cons_zero, List.set_cons_succ]
        refine' Reg.G.take (i := 5) (v := _) (F := (fun w => Fr (fun _ => False) wr w)) rfl (by rfl) (by kernel_rfl) (by kernel_rfl) (by kernel_rfl) (fun _ _ _ h => h) (HFD.out) ?hyi6 ?rehyi6
        case hyi6 => intro w hw; have kc := HCP.out w hw; clear hw; first | (go_simp; done) | (go_simp; with_reducible rfl)
        simp only [Act.put, List.setIfInBounds_toArray, List.set_cons_zero, List.set_cons_succ]
        refine' Reg.G.pure (i := 6) (v := _) rfl (by rfl) (by kernel_rfl) (by kernel_rfl) (by kernel_rfl) (fun _ _ _ h => h) ?hyi7 ?rehyi7
        case hyi7 => exact fun w => by first | (go_simp; done) | (go_simp; with_reducible rfl)
        simp only [Act.put, List.setIfInBounds_toArray, List.set_cons_zero, List.set_cons_succ]
        refine' Reg.G.take (i := 7) (v := _) (F := (fun w => Fr (fun _ => False) wr w)) rfl (by rfl) (by kernel_rfl) (by kernel_rfl) (by kernel_rfl) (fun _ _ _ h => h) (HFD.out) ?hyi8 ?rehyi8
        case hyi8 => intro w hw; have kc : w.cell? ⟨W.heap.size + 1, 31, none⟩ = some (.slice (some ⟨gx, ox, none⟩) t.h.names.length cx) := by { rw [cell_of_blk (hw.blk HX.out (fun h => h)), DT.cells_eq, HXN.out]; rfl }; clear hw; first | (go_simp; done) | (go_simp; with_reducible rfl)
        simp only [Act.put, List.setIfInBounds_toArray, List.set_cons_zero, List.set_cons_succ]
        refine' Reg.G.pure (i := 8) (v := _) rfl (by rfl) (by kernel_rfl) (by kernel_rfl) (by kernel_rfl) (fun _ _ _ h => h) ?hyi9 ?rehyi9
        case hyi9 => exact fun w => by first | (go_simp; done) | (go_simp; with_reducible rfl)
        simp only [Act.put, List.setIfInBounds_toArray, List.set_cons_zero, List.set_cons_succ]
        refine' Reg.G.pure (i := 9) (v := _) rfl (by rfl) (by kernel_rfl) (by kernel_rfl) (by kernel_rfl) (fun _ _ _ h => h) ?hyi10 ?rehyi10
        case hyi10 => exact fun w => by first | (go_simp; done) | (go_simp; with_reducible rfl)
        simp only [Act.put, List.setIfInBounds_toArray, List.set_cons_zero, List.set_cons_succ]
        refine' Reg.G.take (i := 10) (v := _) (F := (fun w => Fr (fun _ => False) wr w)) rfl (by rfl) (by kernel_rfl) (by kernel_rfl) (by kernel_rfl) (fun _ _ _ h => h) (HFD.out) ?hyi11 ?rehyi11
        case hyi11 => intro w hw; have kc := HCX.out w hw; clear hw; first | (go_simp; done) | (go_simp; with_reducible rfl)
        simp only [Act.put, List.setIfInBounds_toArray, List.set_cons_zero, List.set_cons_succ]
        refine Reg.G.step (j := 11) (m := [false, false, false, false, false]) [10, 7, 5, 2, 0] rfl (by kernel_rfl) rfl (by kernel_rfl) (fun K hK => ?_)
        obtain ⟨ob, hrun, hmf⟩ := (HM.out.fr HFD.out (fun h => h)).set (P := Try.prog) Try.underlying90 Try.underlying9 p (sv a)
        obtain ⟨w2, HW2⟩ : ∃ w, Hid (setBlock wD (W.heap.size + 2) ob = w) := ⟨_, rfl⟩
        have HF2 : Hid (Fr (fun g => g = W.heap.size + 2) wr w2) := by
          obtain ⟨o2, ho2⟩ := (HM.out.fr HFD.out (fun h => h)).blk
          rw [← HW2.out]; exact (HFD.out.mono (T := fun g => g = W.heap.size + 2) (fun _ _ h => h.elim)).trans (fr_set ho2)
        have HSN : Hid (w2.heap.size = W.heap.size + 4) := by show _ = _; rw [← HW2.out, size_set, HSD0.out, HSZ.out]
        have HMN : Hid (Mp.MapF w2 (W.heap.size + 2) (argF (t.h.names.drop j) (x.h.names.drop j))) := by rw [HST.out, if_neg HPE.out, ← HW2.out]; exact hmf
        have HTNN : Hid (w2.heap[W.heap.size]? = some (.cells t.cells.toArray 41 (0, 0))) := HF2.out.blk HT.out (by omega)
        have HXNN : Hid (w2.heap[W.heap.size + 1]? = some (.cells x.cells.toArray 41 (0, 0))) := HF2.out.blk HX.out (by omega)
        have HANN : Hid (w2.heap[W.heap.size + 3]? = some (.cells #[.map (some (W.heap.size + 2))] 90 (0, 0))) := HF2.out.blk HA.out (by omega)
        have HFN : Hid (Fr (fun _ => False) W w2) := HF.out.trans' HF2.out (fun g hg e => by omega)
        rw [HW2.out] at hrun
        refine Mp.wp_up 90 _ _ _ (.inl rfl) rfl rfl rfl hrun ?_
        clear hrun hmf HW2
        refine hK.out _ _ trivial ?_
        clear hK K
        simp only [Act.put, List.setIfInBounds_toArray, List.set_cons_zero, List.set_cons_succ, Reg.Kept]
        refine Reg.G.done (by kernel_rfl) ?_
        go_wp2_with fail
        go_roundw
        case rel => exact ⟨j, by go_num, by have := HKJ.out; omega, HSN, HTNN, HXNN, HANN, HMN, HFN⟩
        case measure => first | (simp [intOf]; done) | (simp [intOf]; omega)
end Go.Proofs.Yticakdajhmfpoaa.Ic
