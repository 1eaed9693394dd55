/-
  deadline.Bounds walked.
-/
import Derived.Test.YticlmkfifpkdpaaDoorDlEval
import Derived.Test.YticlmkfifpkdpaaDoorDlLaws3
namespace Go.Proofs.YticlmkfifpkdpaaDoor.Dl
open Go.RowKit Mem Vw
set_option linter.unusedVariables false
set_option linter.unusedSimpArgs false

theorem results_tmp4 {fn : Func} {t u v s : Tmp} (h : fn.results = #[.tmp t, .tmp u, .tmp v, .tmp s]) (tmps : Array Value) (P : Program) (w : World) :
    (results fn tmps).run P w = .ok (.tuple #[tmps.getD t undef, tmps.getD u undef, tmps.getD v undef, tmps.getD s undef]) w := by
  simp [results, h]
theorem quad_inj {a b d a' b' d' : Int} {c1 c' : Bool} (h : (a, b, c1, d) = ((a', b', c', d') : Int × Int × Bool × Int)) : a = a' ∧ b = b' ∧ c1 = c' ∧ d = d' := by
  injection h with h1 h2
  injection h2 with h2 h3
  injection h3 with h3 h4
  exact ⟨h1, h2, h3, h4⟩
def boundsv (r : Int × Int × Bool × Int) : Value := .tuple #[.int .i64 r.1, .int .i64 r.2.1, .bool r.2.2.1, .int .i64 r.2.2.2]
theorem ordered_drop {x y : List When} : ∀ {k : Nat} {a b : When}, x[k]? = some a → y[k]? = some b → ordered (x.drop k) (y.drop k) = (pairOk a b && ordered (x.drop (k + 1)) (y.drop (k + 1))) := by
  intro k a b ha hb
  obtain ⟨hk, e⟩ := List.getElem?_eq_some_iff.1 ha
  obtain ⟨hk2, e2⟩ := List.getElem?_eq_some_iff.1 hb
  rw [List.drop_eq_getElem_cons hk, e, List.drop_eq_getElem_cons hk2, e2]; rfl
def BR (x y : List When) (W : World) (iv : Value) (wr : World) : Prop := ∃ k : Nat, iv = .int .i64 k ∧ k ≤ x.length ∧ Hid (ordered x y = ordered (x.drop k) (y.drop k)) ∧ Hid (Below W.heap.size W wr)
set_option maxRecDepth 100000 in
set_option maxHeartbeats 4000000 in
theorem bounds_any (t : Term) (tv : Value) (c : Cal) (hv : Value) (x : List When) (xv : Value) (y : List When) (yv : Value) (W : World) (hT : Tree W t tv) (hC : CalAt W c hv) (hX : EvsAt W x xv) (hY : EvsAt W y yv) (hbf : Bf W) :
    Calls Tryd.prog 28 #[.agg (tc (t, tv)).toArray, .agg (ccs c hv).toArray, xv, yv] W fun e w' => e = .returned (boundsv (bounds t c x y)) ∧ Below W.heap.size W w' := by
  have HT := Lib.hid hT; have HC := Lib.hid hC; have HX := Lib.hid hX; have HY := Lib.hid hY; have HBF := Lib.hid hbf
  obtain ⟨A, cp, hv1, hc1, hc2⟩ := hT.slice
  subst hv1
  obtain ⟨Ax, nx, hxv, hx1, hx2, hxc⟩ := hX.slice
  subst hxv
  obtain ⟨Ay, ny, hyv, hy1, hy2, hyc⟩ := hY.slice
  subst hyv
  have HXC := Lib.hid hxc; have HYC := Lib.hid hyc
  clear hT hC hX hY hbf hxc hyc
  obtain ⟨k, n, e, b, kids⟩ := t
  show Calls Tryd.prog 28 #[.agg #[.int .i64 k, .int .i64 n, .int .i64 e, .bool b, .slice A kids.length cp], .agg (ccs c hv).toArray, .slice Ax x.length nx, .slice Ay y.length ny] W _
  obtain ⟨w0, HW0⟩ : ∃ w0, Hid ((W.alloc (.cells #[.int .i64 k, .int .i64 n, .int .i64 e, .bool b, .slice A kids.length cp] 31)).alloc (.cells (ccs c hv).toArray 28) = w0) := ⟨_, rfl⟩
  have HB0 : Hid (w0.heap[W.heap.size]? = some (.cells #[.int .i64 k, .int .i64 n, .int .i64 e, .bool b, .slice A kids.length cp] 31 (0, 0))) := by rw [← HW0.out]; exact blk_alloc (blk_newn rfl) _
  have HB1 : Hid (w0.heap[W.heap.size + 1]? = some (.cells (ccs c hv).toArray 28 (0, 0))) := by rw [← HW0.out]; exact blk_newn (by simp)
  have HBE : Hid (Below W.heap.size W w0) := by rw [← HW0.out]; exact ((Below.refl _ W).alloc (Nat.le_refl _) _).alloc (by simp) _
  have HEX : Hid (∀ w, Below W.heap.size W w → Calls Tryd.prog 17 #[.agg #[.int .i64 k, .int .i64 n, .int .i64 e, .bool b, .slice A kids.length cp], .agg (ccs c hv).toArray, .slice Ax x.length nx] w fun e' w' => e' = .returned (evalv (eval (.mk k n e b kids) c x)) ∧ Below w.heap.size w w') :=
    fun w hb => eval_any (.mk k n e b kids) (.slice A kids.length cp) c hv x _ w (HT.out.keep hb) (HC.out.below hb) (HX.out.below hb) (HBF.out.below hb)
  have HEY : Hid (∀ w, Below W.heap.size W w → Calls Tryd.prog 17 #[.agg #[.int .i64 k, .int .i64 n, .int .i64 e, .bool b, .slice A kids.length cp], .agg (ccs c hv).toArray, .slice Ay y.length ny] w fun e' w' => e' = .returned (evalv (eval (.mk k n e b kids) c y)) ∧ Below w.heap.size w w') :=
    fun w hb => eval_any (.mk k n e b kids) (.slice A kids.length cp) c hv y _ w (HT.out.keep hb) (HC.out.below hb) (HY.out.below hb) (HBF.out.below hb)
  obtain ⟨⟨dx, kx, ex⟩, HX1⟩ : ∃ r, Hid (eval (.mk k n e b kids) c x = r) := ⟨_, rfl⟩
  obtain ⟨⟨dy, ky, ey⟩, HY1⟩ : ∃ r, Hid (eval (.mk k n e b kids) c y = r) := ⟨_, rfl⟩
  rw [HX1.out] at HEX
  rw [HY1.out] at HEY
  have HBO : Hid (bounds (.mk k n e b kids) c x y = (if x.length ≠ y.length then (0, 0, false, 1) else if ex = 1 ∨ ey = 1 then (0, 0, false, 1) else if !ordered x y then (0, 0, false, 1) else if ex ≠ 0 ∨ ey ≠ 0 then (0, 0, false, 2) else if !kx || !ky then (0, 0, false, 0) else (dx, dy, true, 0))) := by
    show _ = _
    unfold bounds
    rw [HX1.out, HY1.out]
  obtain ⟨⟨r1, r2, r3, r4⟩, HRES⟩ : ∃ r, Hid (bounds (.mk k n e b kids) c x y = r) := ⟨_, rfl⟩
  rw [HRES.out]
  rw [HRES.out] at HBO
  dsimp only [boundsv]
  go_enter Tryd.func28, Tryd.ntmps28
  go_upto_region 1 with fail
  rw [HW0.out]
  clear HW0
  by_cases hl : x.length = y.length
  case neg =>
    have HR : Hid ((r1, r2, r3, r4) = ((0, 0, false, 1) : Int × Int × Bool × Int)) := by show _ = _; rw [HBO.out, if_pos hl]
    have hbn : ((x.length : Int) != (y.length : Int)) = true := by simp; omega
    obtain ⟨e1, e2, e3, e4⟩ := quad_inj HR.out
    subst e1 e2 e3 e4
    go_wp2_with fail
    (try simp only [Exit.inBlock, Exit.then]); refine bodyPost_ret (results_tmp4 rfl _ _ _) rfl ?_
    exact ⟨rfl, HBE.out⟩
  have HL := Lib.hid hl
  have hbn : ((x.length : Int) != (y.length : Int)) = false := by simp; omega
  rw [if_neg (not_not_intro hl)] at HBO
  clear hl
  have t0 : w0.cell? ⟨W.heap.size, 0, none⟩ = some (.int .i64 k) := cell_of_blk HB0.out 0
  have t1 : w0.cell? ⟨W.heap.size, 1, none⟩ = some (.int .i64 n) := cell_of_blk HB0.out 1
  have t2 : w0.cell? ⟨W.heap.size, 2, none⟩ = some (.int .i64 e) := cell_of_blk HB0.out 2
  have t3 : w0.cell? ⟨W.heap.size, 3, none⟩ = some (.bool b) := cell_of_blk HB0.out 3
  have t4 : w0.cell? ⟨W.heap.size, 4, none⟩ = some (.slice A kids.length cp) := cell_of_blk HB0.out 4
  have hcc := ccs_cells HB1.out
  have k0 := hcc.1 0 (by omega); have k1 := hcc.1 1 (by omega); have k2 := hcc.1 2 (by omega); have k3 := hcc.1 3 (by omega); have k4 := hcc.1 4 (by omega); have k5 := hcc.1 5 (by omega); have k6 := hcc.1 6 (by omega); have k7 := hcc.2
  clear hcc
  go_wp2_with fail
  refine (HEX.out w0 HBE.out).mono ?_
  rintro e9 w1 ⟨rfl, hb1⟩
  dsimp only [evalv]
  have HW1 := Lib.hid hb1
  have HBE1 : Hid (Below W.heap.size W w1) := HBE.out.trans (hb1.mono HBE.out.size)
  have HB01 := Lib.hid ((hb1.block _ (lt_of_blk HB0.out)).trans HB0.out); have HB11 := Lib.hid ((hb1.block _ (lt_of_blk HB1.out)).trans HB1.out)
  clear hb1 t0 t1 t2 t3 t4 k0 k1 k2 k3 k4 k5 k6 k7
  have t0 : w1.cell? ⟨W.heap.size, 0, none⟩ = some (.int .i64 k) := cell_of_blk HB01.out 0
  have t1 : w1.cell? ⟨W.heap.size, 1, none⟩ = some (.int .i64 n) := cell_of_blk HB01.out 1
  have t2 : w1.cell? ⟨W.heap.size, 2, none⟩ = some (.int .i64 e) := cell_of_blk HB01.out 2
  have t3 : w1.cell? ⟨W.heap.size, 3, none⟩ = some (.bool b) := cell_of_blk HB01.out 3
  have t4 : w1.cell? ⟨W.heap.size, 4, none⟩ = some (.slice A kids.length cp) := cell_of_blk HB01.out 4
  have hcc := ccs_cells HB11.out
  have k0 := hcc.1 0 (by omega); have k1 := hcc.1 1 (by omega); have k2 := hcc.1 2 (by omega); have k3 := hcc.1 3 (by omega); have k4 := hcc.1 4 (by omega); have k5 := hcc.1 5 (by omega); have k6 := hcc.1 6 (by omega); have k7 := hcc.2
  clear hcc
  go_wp2_with fail
  refine (HEY.out w1 HBE1.out).mono ?_
  rintro e8 w2 ⟨rfl, hb2⟩
  dsimp only [evalv]
  have HBE2 : Hid (Below W.heap.size W w2) := HBE1.out.trans (hb2.mono HBE1.out.size)
  clear hb2 t0 t1 t2 t3 t4 k0 k1 k2 k3 k4 k5 k6 k7 HB0 HB1 HB01 HB11 HEX HEY HW1
  by_cases hx1e : ex = 1
  · have HR : Hid ((r1, r2, r3, r4) = ((0, 0, false, 1) : Int × Int × Bool × Int)) := by show _ = _; rw [HBO.out, if_pos (.inl hx1e)]
    obtain ⟨e1, e2, e3, e4⟩ := quad_inj HR.out
    subst e1 e2 e3 e4
    go_wp2_with fail
    (try simp only [Exit.inBlock, Exit.then]); refine bodyPost_ret (results_tmp4 rfl _ _ _) rfl ?_
    exact ⟨rfl, HBE2.out⟩
  have hbx1 : (ex == 1) = false := beq_eq_false_iff_ne.2 hx1e
  by_cases hy1e : ey = 1
  · have HR : Hid ((r1, r2, r3, r4) = ((0, 0, false, 1) : Int × Int × Bool × Int)) := by show _ = _; rw [HBO.out, if_pos (.inr hy1e)]
    obtain ⟨e1, e2, e3, e4⟩ := quad_inj HR.out
    subst e1 e2 e3 e4
    go_wp2_with fail
    (try simp only [Exit.inBlock, Exit.then]); refine bodyPost_ret (results_tmp4 rfl _ _ _) rfl ?_
    exact ⟨rfl, HBE2.out⟩
  have hby1 : (ey == 1) = false := beq_eq_false_iff_ne.2 hy1e
  rw [if_neg (fun h => h.elim hx1e hy1e)] at HBO
  have HX1E := Lib.hid hx1e; have HY1E := Lib.hid hy1e
  clear hx1e hy1e
  go_wp2_with fail
  go_loopw [8, 9, 48] (fun av bv iv wr => av = .int .i64 dx ∧ bv = .int .i64 dy ∧ BR x y W iv wr) (fun _ _ iv _ => x.length - (intOf iv).toNat)
  case atStart => exact ⟨rfl, rfl, 0, rfl, by omega, rfl, HBE2.out⟩
  case round =>
    obtain ⟨rfl, rfl, i, rfl, hi, HO, HBW⟩ := hrel
    by_cases hlt : i < x.length
    · obtain ⟨a, ha⟩ : ∃ a, x[i]? = some a := ⟨_, List.getElem?_eq_getElem hlt⟩
      obtain ⟨d, hd⟩ : ∃ d, y[i]? = some d := ⟨_, List.getElem?_eq_getElem (by have := HL.out; omega)⟩
      have HST := Lib.hid (ordered_drop ha hd)
      obtain ⟨gx, ox, hAx, hgx, a0, a1, a2⟩ := HXC.out i a ha
      obtain ⟨gy, oy, hAy, hgy, d0, d1, d2⟩ := HYC.out i d hd
      subst hAx hAy
      have a0 := (World.cell?_of_block (a := ⟨gx, ox + i * 3, none⟩) (HBW.out.block gx hgx)).trans a0
      have a1 := (World.cell?_of_block (a := ⟨gx, ox + i * 3 + 1, none⟩) (HBW.out.block gx hgx)).trans a1
      have a2 := (World.cell?_of_block (a := ⟨gx, ox + i * 3 + 2, none⟩) (HBW.out.block gx hgx)).trans a2
      have d0 := (World.cell?_of_block (a := ⟨gy, oy + i * 3, none⟩) (HBW.out.block gy hgy)).trans d0
      have d1 := (World.cell?_of_block (a := ⟨gy, oy + i * 3 + 1, none⟩) (HBW.out.block gy hgy)).trans d1
      have d2 := (World.cell?_of_block (a := ⟨gy, oy + i * 3 + 2, none⟩) (HBW.out.block gy hgy)).trans d2
      have hly : i < y.length := by have := HL.out; omega
      have gxs : gx < wr.heap.size := Nat.lt_of_lt_of_le hgx HBW.out.size
      have gys : gy < wr.heap.size := Nat.lt_of_lt_of_le hgy HBW.out.size
      clear ha hd hgx hgy
      obtain ⟨ak, ad, am⟩ := a
      obtain ⟨dk, dd, dm⟩ := d
      dsimp only at a0 a1 a2 d0 d1 d2
      go_upto_region 10 with fail
      go_cut [17, 18] (fun s17 s18 wx => ∃ p q, s17 = .pointer (some ⟨p, 0, none⟩) ∧ s18 = .pointer (some ⟨q, 0, none⟩) ∧ Hid (wx.heap[p]? = some (.cells #[.bool ak, .int .i64 ad, .int .i64 am] 67 (0, 0))) ∧ Hid (wx.heap[q]? = some (.cells #[.bool dk, .int .i64 dd, .int .i64 dm] 67 (0, 0))) ∧ Hid (Below W.heap.size W wx))
      case first =>
        have hsz := HBW.out.size
        go_region_with fail
        all_goals (go_wp2_with fail; go_meet; refine ⟨_, _, rfl, rfl, ?_, ?_, ?_⟩)
        all_goals first
          | exact blk_alloc (blk_newn rfl) _
          | exact blk_newn (by simp)
          | exact (HBW.out.alloc hsz _).alloc (by simp; omega) _
          | exact below_drewN ((HBW.out.alloc hsz _).alloc (by simp; omega) _) 1
      case rest =>
        obtain ⟨p, q, rfl, rfl, HP, HQ, HBX⟩ := hcut
        clear a0 a1 a2 d0 d1 d2
        have a0 : wc.cell? ⟨p, 0, none⟩ = some (.bool ak) := cell_of_blk HP.out 0
        have a1 : wc.cell? ⟨p, 1, none⟩ = some (.int .i64 ad) := cell_of_blk HP.out 1
        have a2 : wc.cell? ⟨p, 2, none⟩ = some (.int .i64 am) := cell_of_blk HP.out 2
        have d0 : wc.cell? ⟨q, 0, none⟩ = some (.bool dk) := cell_of_blk HQ.out 0
        have d1 : wc.cell? ⟨q, 1, none⟩ = some (.int .i64 dd) := cell_of_blk HQ.out 1
        have d2 : wc.cell? ⟨q, 2, none⟩ = some (.int .i64 dm) := cell_of_blk HQ.out 2
        have HPO : Hid (pairOk ⟨ak, ad, am⟩ ⟨dk, dd, dm⟩ = (decide (ak = dk) && (!ak || !(decide (ad > dd) || decide (ad = dd) && decide (am > dm))))) := rfl
        have no : pairOk ⟨ak, ad, am⟩ ⟨dk, dd, dm⟩ = false → ordered x y = false := fun h => by rw [HO.out, HST.out, h]; rfl
        have yes : pairOk ⟨ak, ad, am⟩ ⟨dk, dd, dm⟩ = true → ordered x y = ordered (x.drop (i + 1)) (y.drop (i + 1)) := fun h => by rw [HO.out, HST.out, h]; rfl
        have HNOO := Lib.hid no; have HYES := Lib.hid yes
        clear no yes
        cases ak <;> cases dk
        · have HNX := Lib.hid (HYES.out (by rw [HPO.out]; simp))
          go_wp2_with fail
          go_roundw
          case rel => exact ⟨rfl, rfl, i + 1, by go_num, by omega, HNX, HBX⟩
          case measure => simp [intOf]; omega
        · have HNO : Hid (ordered x y = false) := HNOO.out (by rw [HPO.out]; simp)
          have HR : Hid ((r1, r2, r3, r4) = ((0, 0, false, 1) : Int × Int × Bool × Int)) := by show _ = _; rw [HBO.out]; rw [HNO.out]; rfl
          obtain ⟨e1, e2, e3, e4⟩ := quad_inj HR.out
          subst e1 e2 e3 e4
          go_wp2_with fail
          (try simp only [Exit.inBlock, Exit.then]); refine bodyPost_ret (results_tmp4 rfl _ _ _) rfl ?_
          exact ⟨rfl, HBX.out⟩
        · have HNO : Hid (ordered x y = false) := HNOO.out (by rw [HPO.out]; simp)
          have HR : Hid ((r1, r2, r3, r4) = ((0, 0, false, 1) : Int × Int × Bool × Int)) := by show _ = _; rw [HBO.out]; rw [HNO.out]; rfl
          obtain ⟨e1, e2, e3, e4⟩ := quad_inj HR.out
          subst e1 e2 e3 e4
          go_wp2_with fail
          (try simp only [Exit.inBlock, Exit.then]); refine bodyPost_ret (results_tmp4 rfl _ _ _) rfl ?_
          exact ⟨rfl, HBX.out⟩
        · by_cases hgt : dd < ad
          · have HNO : Hid (ordered x y = false) := HNOO.out (by rw [HPO.out]; simp; omega)
            have HR : Hid ((r1, r2, r3, r4) = ((0, 0, false, 1) : Int × Int × Bool × Int)) := by show _ = _; rw [HBO.out]; rw [HNO.out]; rfl
            obtain ⟨e1, e2, e3, e4⟩ := quad_inj HR.out
            subst e1 e2 e3 e4
            go_wp2_with fail
            (try simp only [Exit.inBlock, Exit.then]); refine bodyPost_ret (results_tmp4 rfl _ _ _) rfl ?_
            exact ⟨rfl, HBX.out⟩
          · by_cases heq : ad = dd
            · subst heq
              by_cases hm : dm < am
              · have HNO : Hid (ordered x y = false) := HNOO.out (by rw [HPO.out]; simp; omega)
                have HR : Hid ((r1, r2, r3, r4) = ((0, 0, false, 1) : Int × Int × Bool × Int)) := by show _ = _; rw [HBO.out]; rw [HNO.out]; rfl
                obtain ⟨e1, e2, e3, e4⟩ := quad_inj HR.out
                subst e1 e2 e3 e4
                go_wp2_with fail
                (try simp only [Exit.inBlock, Exit.then]); refine bodyPost_ret (results_tmp4 rfl _ _ _) rfl ?_
                exact ⟨rfl, HBX.out⟩
              · have HNX := Lib.hid (HYES.out (by rw [HPO.out]; simp; omega))
                go_wp2_with fail
                go_roundw
                case rel => exact ⟨rfl, rfl, i + 1, by go_num, by omega, HNX, HBX⟩
                case measure => simp [intOf]; omega
            · have hne : (ad == dd) = false := beq_eq_false_iff_ne.2 heq
              have HNX := Lib.hid (HYES.out (by rw [HPO.out]; simp; omega))
              go_wp2_with fail
              go_roundw
              case rel => exact ⟨rfl, rfl, i + 1, by go_num, by omega, HNX, HBX⟩
              case measure => simp [intOf]; omega
    · have HOT : Hid (ordered x y = true) := by
        have hie : i = x.length := by omega
        show _ = _
        rw [HO.out, hie, List.drop_length, List.drop_of_length_le (by have := HL.out; omega)]
        rfl
      rw [HOT.out] at HBO
      by_cases hx0 : ex = 0
      · by_cases hy0 : ey = 0
        · subst hx0 hy0
          cases kx <;> cases ky
          · have HR : Hid ((r1, r2, r3, r4) = ((0, 0, false, 0) : Int × Int × Bool × Int)) := by show _ = _; rw [HBO.out]; simp
            obtain ⟨e1, e2, e3, e4⟩ := quad_inj HR.out
            subst e1 e2 e3 e4
            go_wp2_with fail
            (try simp only [Exit.inBlock, Exit.then]); refine bodyPost_ret (results_tmp4 rfl _ _ _) rfl ?_
            exact ⟨rfl, HBW.out⟩
          · have HR : Hid ((r1, r2, r3, r4) = ((0, 0, false, 0) : Int × Int × Bool × Int)) := by show _ = _; rw [HBO.out]; simp
            obtain ⟨e1, e2, e3, e4⟩ := quad_inj HR.out
            subst e1 e2 e3 e4
            go_wp2_with fail
            (try simp only [Exit.inBlock, Exit.then]); refine bodyPost_ret (results_tmp4 rfl _ _ _) rfl ?_
            exact ⟨rfl, HBW.out⟩
          · have HR : Hid ((r1, r2, r3, r4) = ((0, 0, false, 0) : Int × Int × Bool × Int)) := by show _ = _; rw [HBO.out]; simp
            obtain ⟨e1, e2, e3, e4⟩ := quad_inj HR.out
            subst e1 e2 e3 e4
            go_wp2_with fail
            (try simp only [Exit.inBlock, Exit.then]); refine bodyPost_ret (results_tmp4 rfl _ _ _) rfl ?_
            exact ⟨rfl, HBW.out⟩
          · have HR : Hid ((r1, r2, r3, r4) = ((dx, dy, true, 0) : Int × Int × Bool × Int)) := by show _ = _; rw [HBO.out]; simp
            obtain ⟨e1, e2, e3, e4⟩ := quad_inj HR.out
            subst e1 e2 e3 e4
            go_wp2_with fail
            (try simp only [Exit.inBlock, Exit.then]); refine bodyPost_ret (results_tmp4 rfl _ _ _) rfl ?_
            exact ⟨rfl, HBW.out⟩
        · have hb0 : (ey != 0) = true := by simpa using hy0
          have HR : Hid ((r1, r2, r3, r4) = ((0, 0, false, 2) : Int × Int × Bool × Int)) := by show _ = _; rw [HBO.out]; simp [hy0]
          obtain ⟨e1, e2, e3, e4⟩ := quad_inj HR.out
          subst e1 e2 e3 e4
          go_wp2_with fail
          (try simp only [Exit.inBlock, Exit.then]); refine bodyPost_ret (results_tmp4 rfl _ _ _) rfl ?_
          exact ⟨rfl, HBW.out⟩
      · have hb0 : (ex != 0) = true := by simpa using hx0
        have HR : Hid ((r1, r2, r3, r4) = ((0, 0, false, 2) : Int × Int × Bool × Int)) := by show _ = _; rw [HBO.out]; simp [hx0]
        obtain ⟨e1, e2, e3, e4⟩ := quad_inj HR.out
        subst e1 e2 e3 e4
        go_wp2_with fail
        (try simp only [Exit.inBlock, Exit.then]); refine bodyPost_ret (results_tmp4 rfl _ _ _) rfl ?_
        exact ⟨rfl, HBW.out⟩
end Go.Proofs.YticlmkfifpkdpaaDoor.Dl
