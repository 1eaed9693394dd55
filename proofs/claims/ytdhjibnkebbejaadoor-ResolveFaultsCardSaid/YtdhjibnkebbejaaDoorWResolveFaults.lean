/-
  The walk of the statement ResolveFaults: it returns true for every source.
-/
import Derived.Test.YtdhjibnkebbejaaDoorResLawW
import Derived.Test.YtdhjibnkebbejaaDoorResLawF
namespace Go.Proofs.YtdhjibnkebbejaaDoor
open Go.RowKit Mem Vw Rs
set_option linter.unusedVariables false
set_option linter.unusedSimpArgs false

theorem inc_of (l : List Rs.Item) (h : ∀ j x y, l[j]? = some x → l[j + 1]? = some y → x.pos < y.pos) : Inc l := by
  induction l with
  | nil => exact List.Pairwise.nil
  | cons a l ih =>
    have hl : Inc l := ih (fun j x y hx hy => h (j + 1) x y (by simpa using hx) (by simpa using hy))
    refine List.pairwise_cons.2 ⟨?_, hl⟩
    cases l with
    | nil => intro b hb; exact absurd hb (List.not_mem_nil)
    | cons b l =>
      have h0 := h 0 a b rfl rfl
      intro c hc
      rcases List.mem_cons.1 hc with rfl | hc
      · exact h0
      · have := (List.pairwise_cons.1 hl).1 c hc; omega
theorem AppSt.rest {B tb : Nat} {src : Rs.Source} {u wr wa wc : World} {vi v8 : Value} {K : List (Rs.Item × Sl)} {e : TypeId} {size n : Nat} {xs : List Value} (st : AppSt B tb src u vi K wr) (hB : u.heap.size = B) (ht : tb < B) (hwa : Fr (fun _ => False) wr wa) (ho : wr.ownsRow B e size v8 n xs) (g2 : wa.grownBy wc v8.ownBlock) (hne : ∀ g, v8.ownBlock = some g → vi.ownBlock ≠ some g) : AppSt B tb src u vi K wc := by
  have h1 := st.keep hwa
  refine ⟨own_grown h1.own g2 (fun g hg e => hne g e hg), (Fr.of_grown g2).blk h1.tbk (fun h => ?_), h1.fr.grown g2 (fun k hk => .inr ?_)⟩
  · have := (own_lt ho _ h).1; omega
  · have := (own_lt ho _ hk).1; omega
/-- What the second loop holds. -/
structure FSt (B tb : Nat) (s : Rs.Source) (z : List (Rs.Item × Sl)) (F : List Fault) (u : World) (k n : Nat) (vi v8 : Value) (KL : List (Rs.Item × Sl)) (R : List Fault) (wr : World) : Prop where
  st : AppSt B tb s u vi KL wr
  rs : wr.ownsRow B 82 2 v8 R.length (R.flatMap faultv)
  ne : ∀ g, v8.ownBlock = some g → vi.ownBlock ≠ some g
  eq : cutF s.items F = (KL.map Prod.fst ++ (cutF (s.items.drop k) (F.drop n)).1, R ++ (cutF (s.items.drop k) (F.drop n)).2.1, (cutF (s.items.drop k) (F.drop n)).2.2)
  sub : ∀ p ∈ KL, p ∈ z
  len : KL.length ≤ k ∧ R.length ≤ k ∧ n ≤ F.length
def FRl (B tb : Nat) (s : Rs.Source) (z : List (Rs.Item × Sl)) (F : List Fault) (u : World) (v8 v9 v10 : Value) (wr : World) : Prop := ∃ k n : Nat, v10 = .int .i64 (k : Int) ∧ v9 = .int .i64 (n : Int) ∧ k ≤ z.length ∧ ∃ vi KL R, Hid (FSt B tb s z F u k n vi v8 KL R wr)
def IRl (z : List (Rs.Item × Sl)) (l : List Rs.Item) (w2 : World) (i : Value) (wr : World) : Prop := ∃ j m : Nat, i = .int .i64 ((j : Int) + 1) ∧ (j = 0 ∨ j < z.length) ∧ Hid (∀ a x y, a < j → l[a]? = some x → l[a + 1]? = some y → x.pos < y.pos) ∧ wr = w2.drewN m
theorem info_fault1 (f : Fault) (w : World) : (Instr.buildSlice 40 1 #[(0, .agg #[.int .i64 f.err, .int .i64 f.pos])]).run Tryd.prog w = .ok (.slice (some ⟨w.heap.size, 0, none⟩) 1 1) (w.alloc (.cells #[.int .i64 f.err, .int .i64 f.pos] 82)) := by kernel_rfl
set_option maxRecDepth 100000 in
set_option maxHeartbeats 8000000 in
theorem walk_ResolveFaults (s : Rs.Source) (si : Value) (hs : SourceOk s) (W : World) (hbf : Bf W) (hi : Items W s.items si) :
    Calls Tryd.prog 8 #[.agg (scells s.name s.frm s.days si).toArray] W fun e w' => e = .returned (.bool true) ∧ Below W.heap.size W w' := by
  obtain ⟨z, hzs, hz⟩ := hi
  obtain ⟨Ai, ci, hv, hc1, hc2⟩ := hz.row.slice
  rw [List.length_map] at hv hc1
  subst hv
  have HZ := Lib.hid hz; have HZS := Lib.hid hzs; have HOK := Lib.hid hs; have HBF := Lib.hid hbf
  have hln : z.length ≤ maxLen := by have h := hs.len; rw [← hzs, List.length_map] at h; exact h
  have HLN := Lib.hid hln
  have HLZ : Hid (z.length = s.items.length) := by show _ = _; rw [← hzs, List.length_map]
  clear hz hzs hs hbf hc1 hc2 hln
  obtain ⟨w0, HW0⟩ : ∃ w0, Hid (W.alloc (.cells (scells s.name s.frm s.days (.slice Ai z.length ci)).toArray 26) = w0) := ⟨_, rfl⟩
  have HSB0 : Hid (w0.heap[W.heap.size]? = some (.cells (scells s.name s.frm s.days (.slice Ai z.length ci)).toArray 26 (0, 0))) := by rw [← HW0.out]; exact blk_newn rfl
  have HBA0 : Hid (Below W.heap.size W w0) := by rw [← HW0.out]; exact (Below.refl _ W).alloc (Nat.le_refl _) _
  have HHD := Lib.hid (head_any w0 (HBF.out.below HBA0.out))
  go_enter Tryd.func8, Tryd.ntmps8
  go_upto_region 1 with fail
  rw [HW0.out]
  go_wp2_with fail
  refine HHD.out.mono ?_
  rintro e w1 ⟨rfl, hb1⟩
  have HSB1 := Lib.hid ((hb1.block _ (lt_of_blk HSB0.out)).trans HSB0.out)
  have HBA1 : Hid (Below W.heap.size W w1) := HBA0.out.trans (hb1.mono HBA0.out.size)
  clear hb1 HHD HSB0 HBA0 HW0
  have s0 : w1.cell? ⟨W.heap.size, 0, none⟩ = some (.string ⟨s.name.toArray⟩) := (cell_of_blk HSB1.out 0).trans rfl
  have s1 : w1.cell? ⟨W.heap.size, 1, none⟩ = some (.int .i64 s.frm.y) := (cell_of_blk HSB1.out 1).trans rfl
  have s2 : w1.cell? ⟨W.heap.size, 2, none⟩ = some (.int .i64 s.frm.m) := (cell_of_blk HSB1.out 2).trans rfl
  have s3 : w1.cell? ⟨W.heap.size, 3, none⟩ = some (.int .i64 s.frm.d) := (cell_of_blk HSB1.out 3).trans rfl
  have s4 : w1.cell? ⟨W.heap.size, 4, none⟩ = some (.int .i64 s.days) := (cell_of_blk HSB1.out 4).trans rfl
  have s5 : w1.cell? ⟨W.heap.size, 5, none⟩ = some (.slice Ai z.length ci) := (cell_of_blk HSB1.out 5).trans rfl
  have HSM := Lib.hid (small_any s _ z w1 (HZ.out.below HBA1.out) HZS.out HLN.out)
  go_wp2_with fail
  refine HSM.out.mono ?_
  rintro e w2 ⟨b, rfl, hsm, hb2⟩
  have HSB2 := Lib.hid ((hb2.block _ (lt_of_blk HSB1.out)).trans HSB1.out)
  have HBA2 : Hid (Below W.heap.size W w2) := HBA1.out.trans (hb2.mono HBA1.out.size)
  have HSMA := Lib.hid hsm
  clear hb2 HSM HSB1 HBA1 s0 s1 s2 s3 s4 s5 hsm
  cases b
  · clear HSMA
    go_wp2_with fail
    go_ret
    exact ⟨rfl, HBA2.out⟩
  obtain ⟨h700, hall⟩ := HSMA.out rfl
  have H7 := Lib.hid h700; have HALL := Lib.hid hall
  have HWS2 : Hid (W.heap.size < w2.heap.size) := lt_of_blk HSB2.out
  clear HSMA h700 hall
  have k5 : w2.cell? ⟨W.heap.size, 5, none⟩ = some (.slice Ai z.length ci) := cell_of_blk HSB2.out 5
  have hz7 : z.length ≤ 700 := H7.out
  go_wp2_with fail
  go_loopw [4] (fun i wr => IRl z s.items w2 i wr) (fun i _ => z.length + 1 - (intOf i).toNat)
  case atStart => exact ⟨0, 0, rfl, .inl rfl, (fun a x y h => absurd h (Nat.not_lt_zero _)), rfl⟩
  case round =>
    obtain ⟨j, m, rfl, hj, HINC, rfl⟩ := hrel
    have hj0 : (0 : Int) ≤ (j : Int) := Int.natCast_nonneg _
    have hj7 : (j : Int) ≤ 700 := by omega
    by_cases hlt : j + 1 < z.length
    · obtain ⟨g0, o, cap0, hs1, hgl, _, _, hat⟩ := (HZ.out.below HBA2.out).row.at (by intro e; rw [List.map_eq_nil_iff] at e; rw [e] at hlt; simp at hlt)
      have hAi : Ai = some ⟨g0, o, none⟩ := by injection hs1
      subst hAi
      obtain ⟨p, hp⟩ : ∃ p, z[j]? = some p := ⟨_, List.getElem?_eq_getElem (by omega)⟩
      obtain ⟨q, hq⟩ : ∃ q, z[j + 1]? = some q := ⟨_, List.getElem?_eq_getElem hlt⟩
      have c1 : w2.cell? ⟨g0, o + j * 33 + 2, none⟩ = some (.int .i64 p.1.pos) := hat j _ (by rw [List.getElem?_map, hp]; rfl) 2 _ rfl
      have c2 : w2.cell? ⟨g0, o + (j + 1) * 33 + 2, none⟩ = some (.int .i64 q.1.pos) := hat (j + 1) _ (by rw [List.getElem?_map, hq]; rfl) 2 _ rfl
      have HPK : Hid (s.items[j]? = some p.1) := by show _ = _; rw [← HZS.out, List.getElem?_map, hp]; rfl
      have HQK : Hid (s.items[j + 1]? = some q.1) := by show _ = _; rw [← HZS.out, List.getElem?_map, hq]; rfl
      clear hat hs1 hgl hp hq
      have i2 : (j : Int) + 1 < (z.length : Int) := by omega
      rcases (by omega : q.1.pos ≤ p.1.pos ∨ p.1.pos < q.1.pos) with hpq | hpq
      · go_wp2_with fail
        go_quiet (fail)
        go_wp2_with fail
        go_ret
        exact ⟨rfl, below_drewN (below_drewN HBA2.out m) _⟩
      · go_wp2_with fail
        go_quiet (fail)
        go_wp2_with fail
        go_roundw
        case rel => exact ⟨j + 1, m + nq, by go_num, .inr hlt, (fun a x y ha hx hy => by
          by_cases haj : a = j
          · subst haj
            have h1 := Option.some.inj (hx.symm.trans HPK.out)
            have h2 := Option.some.inj (hy.symm.trans HQK.out)
            rw [h1, h2]; exact hpq
          · exact HINC.out a x y (by omega) hx hy), rfl⟩
        case measure => simp [intOf]; omega
    · have HI : Hid (Inc s.items) := inc_of s.items (fun a x y hx hy => by
        have hl := (List.getElem?_eq_some_iff.1 hy).1
        have h3 := HLZ.out
        exact HINC.out a x y (by omega) hx hy)
      clear HINC
      have HBA2 : Hid (Below W.heap.size W (w2.drewN m)) := below_drewN HBA2.out m
      have HSB2 : Hid ((w2.drewN m).heap[W.heap.size]? = some (.cells (scells s.name s.frm s.days (.slice Ai z.length ci)).toArray 26 (0, 0))) := HSB2.out
      have i9 : ¬ ((j : Int) + 1 < (z.length : Int)) := by omega
      go_upto_region 9 with fail
      obtain ⟨wz, hwz⟩ : ∃ wz, w2.drewN m = wz := ⟨_, rfl⟩
      rw [hwz] at HBA2 HSB2
      rw [hwz]
      have HWS2 : Hid (W.heap.size < wz.heap.size) := lt_of_blk HSB2.out
      clear hwz k5 i9 hj hj0 hj7
      have s0 : wz.cell? ⟨W.heap.size, 0, none⟩ = some (.string ⟨s.name.toArray⟩) := (cell_of_blk HSB2.out 0).trans rfl
      have s1 : wz.cell? ⟨W.heap.size, 1, none⟩ = some (.int .i64 s.frm.y) := (cell_of_blk HSB2.out 1).trans rfl
      have s2 : wz.cell? ⟨W.heap.size, 2, none⟩ = some (.int .i64 s.frm.m) := (cell_of_blk HSB2.out 2).trans rfl
      have s3 : wz.cell? ⟨W.heap.size, 3, none⟩ = some (.int .i64 s.frm.d) := (cell_of_blk HSB2.out 3).trans rfl
      have s4 : wz.cell? ⟨W.heap.size, 4, none⟩ = some (.int .i64 s.days) := (cell_of_blk HSB2.out 4).trans rfl
      have s5 : wz.cell? ⟨W.heap.size, 5, none⟩ = some (.slice Ai z.length ci) := (cell_of_blk HSB2.out 5).trans rfl
      have HREA := Lib.hid (resolve_any s _ z wz (HZ.out.below HBA2.out) HZS.out (by have := H7.out; omega) (fun y hy => ⟨HOK.out.items y hy, by have := (HALL.out y hy).conds; omega⟩) (HBF.out.below HBA2.out))
      go_wp2_with fail
      refine HREA.out.mono ?_
      rintro e rA ⟨vA, rfl, hro, hbr⟩
      obtain ⟨AA, hA⟩ : ∃ A, answer s = A := ⟨_, rfl⟩
      rw [ResOut, hA] at hro
      obtain ⟨saA, yaA, faA⟩ := AA
      obtain ⟨HaA, clA, fvA, rfl, hsy, hft, _⟩ := hro
      dsimp only at hsy hft
      have HONEA : Hid ((symc saA yaA.weekend HaA).toArray.all (·.oneCell') = true) := one_symc saA yaA.weekend HaA hsy.hol.form hsy.par.form hsy.rol.form hsy.uni.form hsy.act.form hsy.cla.form
      obtain ⟨AfA, cfA, hfe, _, _⟩ := hft.slice
      rw [List.length_map] at hfe
      subst hfe
      have HSYA := Lib.hid hsy; have HAA := Lib.hid hA; have HFTA := Lib.hid hft; have HBRA := Lib.hid hbr
      clear hsy hft hA hbr s0 s1 s2 s3 s4 s5 HREA
      dsimp only
      iterate 13 go_step
      refine wpList_store_row rfl 39 _ _ rfl rA.heap.size (symc saA yaA.weekend HaA).toArray rfl rfl 39 _ (blk_newn rfl) (info_symc _ _ _) rfl HONEA.out ?_
      simp only [Act.put, List.setIfInBounds_toArray, List.set_cons_zero, List.set_cons_succ]
      rw [World.setRow_alloc_new]
      obtain ⟨uA, hu⟩ : ∃ u, rA.alloc (.cells (symc saA yaA.weekend HaA).toArray 39) = u := ⟨_, rfl⟩
      rw [hu]
      have HQA : Hid (uA.heap[rA.heap.size]? = some (.cells (symc saA yaA.weekend HaA).toArray 39 (0, 0))) := by rw [← hu]; exact blk_newn rfl
      have HBUA : Hid (Below rA.heap.size rA uA) := by rw [← hu]; exact (Below.refl _ rA).alloc (Nat.le_refl _) _
      have HSUA : Hid (uA.heap.size = rA.heap.size + 1) := by show _ = _; rw [← hu]; simp
      clear hu HONEA
      have HBAA : Hid (Below W.heap.size W rA) := HBA2.out.trans (HBRA.out.mono HBA2.out.size)
      have HSBA := Lib.hid ((HBRA.out.block _ (lt_of_blk HSB2.out)).trans HSB2.out)
      have HSUB := Lib.hid ((HBUA.out.block _ (lt_of_blk HSBA.out)).trans HSBA.out)
      clear HSB2 HBA2 HBRA
      have s0 : uA.cell? ⟨W.heap.size, 0, none⟩ = some (.string ⟨s.name.toArray⟩) := (cell_of_blk HSUB.out 0).trans rfl
      have s1 : uA.cell? ⟨W.heap.size, 1, none⟩ = some (.int .i64 s.frm.y) := (cell_of_blk HSUB.out 1).trans rfl
      have s2 : uA.cell? ⟨W.heap.size, 2, none⟩ = some (.int .i64 s.frm.m) := (cell_of_blk HSUB.out 2).trans rfl
      have s3 : uA.cell? ⟨W.heap.size, 3, none⟩ = some (.int .i64 s.frm.d) := (cell_of_blk HSUB.out 3).trans rfl
      have s4 : uA.cell? ⟨W.heap.size, 4, none⟩ = some (.int .i64 s.days) := (cell_of_blk HSUB.out 4).trans rfl
      have s5 : uA.cell? ⟨W.heap.size, 5, none⟩ = some (.slice Ai z.length ci) := (cell_of_blk HSUB.out 5).trans rfl
      go_upto_region 11 with fail
      obtain ⟨u, hu⟩ : ∃ u, uA.alloc (.cells #[.string ⟨s.name.toArray⟩, .int .i64 s.frm.y, .int .i64 s.frm.m, .int .i64 s.frm.d, .int .i64 s.days, .slice none 0 0] 26) = u := ⟨_, rfl⟩
      rw [hu]
      have HTB5 : Hid (u.heap[uA.heap.size]? = some (.cells (scells s.name s.frm s.days Vw.nil).toArray 26 (0, 0))) := by rw [← hu]; exact blk_newn rfl
      have HBUu : Hid (Below uA.heap.size uA u) := by rw [← hu]; exact (Below.refl _ uA).alloc (Nat.le_refl _) _
      have HSZu : Hid (u.heap.size = uA.heap.size + 1) := by show _ = _; rw [← hu]; simp
      obtain ⟨B, hB⟩ : ∃ B, u.heap.size = B := ⟨_, rfl⟩
      have HB := Lib.hid hB; clear hB hu s0 s1 s2 s3 s4 s5
      have HTB : Hid (uA.heap.size < B) := by have h1 := HSZu.out; have h2 := HB.out; show _ < _; omega
      have HBRu : Hid (Below rA.heap.size rA u) := HBUA.out.trans (HBUu.out.mono HBUA.out.size)
      have HBWu : Hid (Below W.heap.size W u) := HBAA.out.trans (HBRu.out.mono HBAA.out.size)
      have HSBu := Lib.hid ((HBUu.out.block _ (lt_of_blk HSUB.out)).trans HSUB.out)
      have HWT : Hid (W.heap.size < rA.heap.size) := lt_of_blk HSBA.out
      have HFE : Hid (faA = (Rs.run s.items).2) := by
        have h1 := answer_faults s
        rw [HAA.out] at h1
        exact h1
      have HFL : Hid (faA.length ≤ 700) := by have h1 := run_flen s.items; have h2 := HLZ.out; have h3 := H7.out; show _ ≤ _; rw [HFE.out]; omega
      have HF0 : Hid (FSt B uA.heap.size s z faA u 0 0 Vw.nil Vw.nil [] [] u) := ⟨⟨World.ownsRow_nil _ _ _ _, HTB5.out, Fr.refl _ u⟩, World.ownsRow_nil _ _ _ _, (fun g h => by simp [Vw.nil, Value.ownBlock] at h), rfl, (fun p hp => absurd hp (List.not_mem_nil)), ⟨Nat.le_refl _, Nat.le_refl _, Nat.zero_le _⟩⟩
      clear HTB5 HBUu HSUB HQA
      obtain ⟨z0, hzi, hzz⟩ := info_item3
      obtain ⟨i0, hi, hz0, hz1, hz2⟩ := info_parts hzi
      obtain ⟨i8, hi8, hy0, hy1, hy2⟩ := info_parts info_fault
      have hfl7 : faA.length ≤ 700 := HFL.out
      go_wp2_with fail
      go_loopw [8, 9, 10] (fun v8 v9 v10 wr => FRl B uA.heap.size s z faA u v8 v9 v10 wr) (fun _ _ i _ => z.length - (intOf i).toNat)
      case atStart => exact ⟨0, 0, rfl, rfl, Nat.zero_le _, _, _, _, HF0⟩
      case round =>
        obtain ⟨k, n, rfl, rfl, hk, vi, KL, R, HFS⟩ := hrel
        clear HF0
        have HSCk : Hid (wr.heap[W.heap.size]? = some (.cells (scells s.name s.frm s.days (.slice Ai z.length ci)).toArray 26 (0, 0))) := HFS.out.st.fr.blk HSBu.out (fun e => by have h1 := HWT.out; have h2 := HSUA.out; omega)
        have k5 : wr.cell? ⟨W.heap.size, 5, none⟩ = some (.slice Ai z.length ci) := cell_of_blk HSCk.out 5
        have HBWr : Hid (Below W.heap.size W wr) := HBWu.out.trans (HFS.out.st.fr.below HBWu.out.size (fun j h => by have h1 := HWT.out; have h2 := HSUA.out; omega))
        have HBRr : Hid (Below rA.heap.size rA wr) := HBRu.out.trans (HFS.out.st.fr.below HBRu.out.size (fun j h => by have := HSUA.out; omega))
        have hn0 : (0 : Int) ≤ (n : Int) := Int.natCast_nonneg _
        have hn7 : n ≤ 700 := by have h1 := HFS.out.len.2.2; have h2 := HFL.out; omega
        by_cases hlt : k < z.length
        · obtain ⟨g0, o, cap0, hs1, hgl, _, _, hat⟩ := HZ.out.row.at (by intro e; rw [List.map_eq_nil_iff] at e; rw [e] at hlt; simp at hlt)
          have hAi : Ai = some ⟨g0, o, none⟩ := by injection hs1
          subst hAi
          obtain ⟨p, hp⟩ : ∃ p, z[k]? = some p := ⟨_, List.getElem?_eq_getElem hlt⟩
          have HATW : Hid (At W g0 (o + k * 33) (ic p)) := hat k _ (by rw [List.getElem?_map, hp]; rfl)
          have HGW : Hid (g0 < W.heap.size) := hgl
          have HAT0 : Hid (At wr g0 (o + k * 33) (ic p)) := HATW.out.below HGW.out HBWr.out
          have HPM : Hid (p ∈ z) := List.mem_of_getElem? hp
          have HBS : Hid (∀ w : World, (Instr.buildSlice 24 1 #[(0, .agg (ic p).toArray)]).run Tryd.prog w = .ok (.slice (some ⟨w.heap.size, 0, none⟩) 1 1) (w.alloc (.cells (ic p).toArray 55))) := fun w => bslice_any (HZ.out.flat p HPM.out) w
          have HONP : Hid (∀ u ∈ ic p, u.oneCell' = true) := fun u hu => by
            have := ic_one (HZ.out.flat p HPM.out).1 (HZ.out.flat p HPM.out).2
            rw [List.all_toArray] at this
            exact List.all_eq_true.1 this u hu
          have HPK : Hid (s.items[k]? = some p.1) := by show _ = _; rw [← HZS.out, List.getElem?_map, hp]; rfl
          have HDK : Hid (s.items.drop k = p.1 :: s.items.drop (k + 1)) := by
            have hl := (List.getElem?_eq_some_iff.1 HPK.out)
            obtain ⟨hl, he⟩ := hl
            show _ = _
            rw [List.drop_eq_getElem_cons hl, he]
          have HKL : Hid (KL.length ≤ 5000) := by have h1 := HFS.out.len.1; have h2 := H7.out; show _ ≤ _; omega
          have c5 : wr.cell? ⟨g0, o + k * 33 + 2, none⟩ = some (.int .i64 p.1.pos) := HAT0.out 2 _ rfl
          clear hat hs1 hgl hp
          have i1 : (0 : Int) ≤ (k : Int) := Int.natCast_nonneg _
          have i2 : (k : Int) < (z.length : Int) := by omega
          by_cases hn : n < faA.length
          · obtain ⟨fg, fo, hfA, hfg, hfat⟩ : ∃ g o, AfA = some ⟨g, o, none⟩ ∧ g < rA.heap.size ∧ ∀ i x, (faA.map faultv)[i]? = some x → At rA g (o + i * 2) x := by
              obtain ⟨g, o, c2, h1, h2, _, _, h3⟩ := HFTA.out.at (by intro e; rw [List.map_eq_nil_iff] at e; rw [e] at hn; simp at hn)
              exact ⟨g, o, by injection h1, h2, h3⟩
            subst hfA
            obtain ⟨a, ha⟩ : ∃ a, faA[n]? = some a := ⟨_, List.getElem?_eq_getElem hn⟩
            have hfa := hfat n (faultv a) (by rw [List.getElem?_map, ha]; rfl)
            have c6 : wr.cell? ⟨fg, fo + n * 2, none⟩ = some (.int .i64 a.err) := (HBRr.out.cell (p := ⟨fg, _, none⟩) hfg).trans (hfa 0 _ rfl)
            have c7 : wr.cell? ⟨fg, fo + n * 2 + 1, none⟩ = some (.int .i64 a.pos) := (HBRr.out.cell (p := ⟨fg, _, none⟩) hfg).trans (hfa 1 _ rfl)
            have HDN : Hid (faA.drop n = a :: faA.drop (n + 1)) := by
              obtain ⟨hl, he⟩ := List.getElem?_eq_some_iff.1 ha
              show _ = _
              rw [List.drop_eq_getElem_cons hl, he]
            clear hfat hfa hfg ha
            have i3 : (n : Int) < (faA.length : Int) := by omega
            have i4 : ¬ (faA.length ≤ n) := by omega
            by_cases hap : a.pos = p.1.pos
            · have hbp : (a.pos != p.1.pos) = false := by simp [hap]
              have HAP := Lib.hid hap; clear hap
              go_wp2_with fail
              go_quiet (fail)
              go_upto_region 19 with fail
              obtain ⟨w5, hw5⟩ : ∃ w5, wr.drewN nq = w5 := ⟨_, rfl⟩
              rw [hw5]
              have HF5 : Hid (Fr (fun _ => False) wr w5) := by rw [← hw5]; exact (Fr.refl _ wr).drewN _
              have HST : Hid (AppSt B uA.heap.size s u vi KL w5) := HFS.out.st.keep HF5.out
              have HRS5 : Hid (w5.ownsRow B 82 2 u8 R.length (R.flatMap faultv)) := own_fr HFS.out.rs HF5.out (fun _ _ _ h => h)
              obtain ⟨er, hre⟩ : ∃ er, a.err = er := ⟨_, rfl⟩
              have HC6 : Hid (w5.cell? ⟨fg, fo + n * 2, none⟩ = some (.int .i64 er)) := by rw [← hw5, ← hre]; exact c6
              have HC7 : Hid (w5.cell? ⟨fg, fo + n * 2 + 1, none⟩ = some (.int .i64 a.pos)) := by rw [← hw5]; exact c7
              rw [hre]
              have HRE := Lib.hid hre
              clear hw5 hre c5 c6 c7 k5 hbp
              by_cases hb : badE a.err = true
              · have HNEW : Hid (FRl B uA.heap.size s z faA u u8 (.int .i64 ((n : Int) + 1)) (.int .i64 ((k : Int) + 1)) w5) := by
                  refine ⟨k + 1, n + 1, rfl, rfl, hlt, vi, KL, R, ⟨HST.out, HRS5.out, HFS.out.ne, ?_, HFS.out.sub, ?_⟩⟩
                  · rw [HFS.out.eq, HDK.out, HDN.out, cutF_hit _ _ _ _ HAP.out, if_pos hb]
                  · have := HFS.out.len
                    exact ⟨by omega, by omega, by omega⟩
                have HER : Hid (er = 10 ∨ er = 9 ∨ er = 3) := by
                  have h := hb
                  rw [HRE.out] at h
                  unfold badE at h
                  simp only [Bool.or_eq_true, decide_eq_true_eq] at h
                  show _ ∨ _
                  omega
                clear hb
                rcases HER.out with h | h | h
                all_goals (
                  subst h
                  go_wp2_with fail
                  go_roundw
                  case rel => exact HNEW.out
                  case measure => simp [intOf]; omega)
              · have HER : Hid (er ≠ 10 ∧ er ≠ 9 ∧ er ≠ 3) := by
                  have h := hb
                  rw [HRE.out] at h
                  unfold badE at h
                  simp only [Bool.or_eq_true, decide_eq_true_eq] at h
                  show _ ∧ _
                  omega
                have HNB : Hid (badE a.err ≠ true) := hb
                have hb1 : (er != 10) = true := by simpa using HER.out.1
                have hb2 : (er != 9) = true := by simpa using HER.out.2.1
                have hb3 : (er != 3) = true := by simpa using HER.out.2.2
                have c6 : w5.cell? ⟨fg, fo + n * 2, none⟩ = some (.int .i64 er) := HC6.out
                have c7 : w5.cell? ⟨fg, fo + n * 2 + 1, none⟩ = some (.int .i64 a.pos) := HC7.out
                clear hb
                go_upto_region 20 with fail
                iterate 19 go_step
                obtain ⟨w6, hw6⟩ : ∃ w6, w5.alloc (.cells #[.int .i64 er, .int .i64 a.pos] 82) = w6 := ⟨_, rfl⟩
                rw [hw6]
                have HF6 : Hid (Fr (fun _ => False) w5 w6) := by rw [← hw6]; exact (Fr.refl _ w5).alloc _
                have hsz6 : w6.heap.size = w5.heap.size + 1 := by rw [← hw6]; simp
                have HN6 : Hid (∀ j u, ([.int .i64 er, .int .i64 a.pos] : List Value)[j]? = some u → w6.cell? ((⟨w5.heap.size, 0, none⟩ : Addr).add j) = some u) := by
                  rw [← hw6]; exact World.news_of_block (cs := #[.int .i64 er, .int .i64 a.pos]) (t := 82) (fr := (0, 0)) (heap_alloc_new w5 _)
                have HRS6 : Hid (w6.ownsRow B 82 2 u8 R.length (R.flatMap faultv)) := own_fr HRS5.out HF6.out (fun _ _ _ h => h)
                clear hw6 c6 c7
                refine wpList_append_lies _ rfl (.tmp 104) (.tmp 109) 40 rfl B 82 i8 _ 2 16 Tryd.underlying40 hi8 hy0 hy1 hy2 rfl (by decide) u8 R.length (R.flatMap faultv) rfl HRS6.out ⟨w5.heap.size, 0, none⟩ 1 1 [.int .i64 er, .int .i64 a.pos] rfl rfl HN6.out (by simp [Value.oneCell']) (by decide) (by have := HFS.out.len.2.1; simp only [maxLen]; omega) (by have := HFS.out.len.2.1; omega) (by have h1 := HST.out.fr.size; have h2 := HB.out; omega) (w5.heap.size + 1) hsz6 ?_
                intro gm cm w7 h1 h2 h3 _
                have HRS7 : Hid (w7.ownsRow B 82 2 (.slice (some ⟨gm, 0, none⟩) (R.length + 1) cm) (R.length + 1) ((R ++ [a]).flatMap faultv)) := by
                  have e : (R ++ [a]).flatMap faultv = R.flatMap faultv ++ [.int .i64 er, .int .i64 a.pos] := by rw [← HRE.out]; simp [faultv, nv]
                  show w7.ownsRow _ _ _ _ _ _
                  rw [e]; exact h1
                have HNE7 : Hid (∀ g, (Value.slice (some ⟨gm, 0, none⟩) (R.length + 1) cm).ownBlock = some g → vi.ownBlock ≠ some g) := fun g hg e => by
                  have e2 : gm = g := by simpa [Value.ownBlock] using hg
                  subst e2
                  rcases h3 with h | h
                  · exact HFS.out.ne gm h e
                  · have := (own_lt HST.out.own gm e).2; omega
                have HST7 : Hid (AppSt B uA.heap.size s u vi KL w7) := AppSt.rest HST.out HB.out HTB.out HF6.out HRS5.out h2 HFS.out.ne
                clear h1 h2 h3 hsz6 HST hb1 hb2 hb3
                have HST := HST7; clear HST7
                have HSC : Hid (w7.cell? ⟨W.heap.size, 5, none⟩ = some (.slice (some ⟨g0, o, none⟩) z.length ci)) := cell_of_blk (HST.out.fr.blk HSBu.out (fun e => by have h1 := HWT.out; have h2 := HSUA.out; omega)) 5
                have HAT : Hid (At w7 g0 (o + k * 33) (ic p)) := HATW.out.below HGW.out (HBWu.out.trans (HST.out.fr.below HBWu.out.size (fun j h => by have h1 := HWT.out; have h2 := HSUA.out; omega)))
                go_upto_region 21 with fail
                refine Reg.G.start (by kernel_rfl) ?_
                refine' Reg.G.pure (i := 0) (v := _) rfl (by rfl) (by kernel_rfl) (by kernel_rfl) (by kernel_rfl) (fun _ _ _ h => h) ?hyr21_0 ?rer21_0
                case hyr21_0 => exact fun w => by first | (go_simp; done) | (go_simp; with_reducible rfl)
                simp only [Act.put, List.setIfInBounds_toArray, List.set_cons_zero, List.set_cons_succ]
                refine' Reg.G.take (i := 1) (v := _) (F := (fun w => w.cell? ⟨uA.heap.size, 5, none⟩ = some vi)) rfl (by rfl) (by kernel_rfl) (by kernel_rfl) (by kernel_rfl) (fun _ _ _ h => h) (cell_of_blk HST.out.tbk 5) ?hyr21_1 ?rer21_1
                case hyr21_1 => intro w hw; first | (go_simp; done) | (go_simp; with_reducible rfl)
                simp only [Act.put, List.setIfInBounds_toArray, List.set_cons_zero, List.set_cons_succ]
                refine' Reg.G.pure (i := 2) (v := _) rfl (by rfl) (by kernel_rfl) (by kernel_rfl) (by kernel_rfl) (fun _ _ _ h => h) ?hyr21_2 ?rer21_2
                case hyr21_2 => exact fun w => by first | (go_simp; done) | (go_simp; with_reducible rfl)
                simp only [Act.put, List.setIfInBounds_toArray, List.set_cons_zero, List.set_cons_succ]
                refine' Reg.G.take (i := 3) (v := _) (F := (fun w => w.cell? ⟨W.heap.size, 5, none⟩ = some (.slice (some ⟨g0, o, none⟩) z.length ci))) rfl (by rfl) (by kernel_rfl) (by kernel_rfl) (by kernel_rfl) (fun _ _ _ h => h) (HSC.out) ?hyr21_3 ?rer21_3
                case hyr21_3 => intro w hw; first | (go_simp; done) | (go_simp; with_reducible rfl)
                simp only [Act.put, List.setIfInBounds_toArray, List.set_cons_zero, List.set_cons_succ]
                refine' Reg.G.pure (i := 4) (v := _) rfl (by rfl) (by kernel_rfl) (by kernel_rfl) (by kernel_rfl) (fun _ _ _ h => h) ?hyr21_4 ?rer21_4
                case hyr21_4 => exact fun w => by first | (go_simp; done) | (go_simp; with_reducible rfl)
                simp only [Act.put, List.setIfInBounds_toArray, List.set_cons_zero, List.set_cons_succ]
                refine' Reg.G.pure (i := 5) (v := _) rfl (by rfl) (by kernel_rfl) (by kernel_rfl) (by kernel_rfl) (fun _ _ _ h => h) ?hyr21_5 ?rer21_5
                case hyr21_5 => exact fun w => by first | (go_simp; done) | (go_simp; with_reducible rfl)
                simp only [Act.put, List.setIfInBounds_toArray, List.set_cons_zero, List.set_cons_succ]
                refine' Reg.G.take (i := 6) (v := _) (F := (fun w => At w g0 (o + k * 33) (ic p))) rfl (by rfl) (by kernel_rfl) (by kernel_rfl) (by kernel_rfl) (fun _ _ _ h => h) (HAT.out) ?hyr21_6 ?rer21_6
                case hyr21_6 => intro w hw; refine run_load_range (P := Tryd.prog) 55 (.tmp 116) ?_ g0 (o + k * 33) ?_ (ic p) _ hw Tryd.underlying55 rfl info_item <;> rfl
                simp only [Act.put, List.setIfInBounds_toArray, List.set_cons_zero, List.set_cons_succ]
                refine Reg.G.step (j := 7) (m := [false, false, true]) [6, 3, 1] rfl (by kernel_rfl) rfl (by kernel_rfl) (fun K hK => ?_)
                -- Op.buildSlice 24 1 #[(0, t117)]
                rw [if_pos (by rfl)]
                refine wp_builtS 24 1 _ rfl #[(0, .agg (ic p).toArray)] (by go_simp) _ _ (HBS.out _) ?_
                obtain ⟨wa, hwa⟩ : ∃ v, (w7.drew).alloc (.cells (ic p).toArray 55) = v := ⟨_, rfl⟩
                rw [hwa]
                have HFA : Hid (Fr (fun _ => False) w7 wa) := by rw [← hwa]; exact (Fr.refl _ w7).drew.alloc _
                have HOA : Hid (wa.ownsRow B 55 33 vi KL.length (KL.flatMap ic)) := own_fr HST.out.own HFA.out (fun _ _ _ h => h)
                have HNA : Hid (∀ j u, (ic p)[j]? = some u → wa.cell? ((⟨w7.heap.size, 0, none⟩ : Addr).add j) = some u) := by rw [← hwa]; exact World.news_of_block (cs := (ic p).toArray) (t := 55) (fr := (0, 0)) (heap_alloc_new w7.drew _)
                have HSA : Hid (wa.heap.size = w7.heap.size + 1) := by show _ = _; rw [← hwa]; simp
                clear hwa
                refine hK.out _ _ ⟨cell_of_blk (HFA.out.blk HST.out.tbk (fun h => h)) 5, trivial⟩ ?_
                clear hK K
                simp only [Act.put, List.setIfInBounds_toArray, List.set_cons_zero, List.set_cons_succ, Reg.Kept]
                refine Reg.G.step (j := 8) (m := [false]) [1] rfl (by kernel_rfl) rfl (by kernel_rfl) (fun K hK => ?_)
                -- Op.call { callee := Callee.builtin Builtin.append, args := #[t112, t118], argTypes := #[24, 24] }
                rw [if_pos (by rfl)]
                refine wp_append_lies wa (.tmp 112) (.tmp 118) 24 rfl B 55 i0 z0 33 368 Tryd.underlying24 hi hz0 hz1 hz2 hzz (by decide) vi KL.length (KL.flatMap ic) (by rfl) HOA.out ⟨w7.heap.size, 0, none⟩ 1 1 (ic p) (by rfl) rfl HNA.out HONP.out (by decide) (by have := HKL.out; simp only [maxLen]; omega) (by have := HKL.out; omega) (by rw [← HB.out]; have h1 := HST.out.fr.size; have h2 := HSA.out; omega) (w7.heap.size + 1) HSA.out ?_
                intro gn cn wc g1 g2 g3 _
                have HNX : Hid (AppSt B uA.heap.size s u (.slice (some ⟨gn, 0, none⟩) (KL.length + 1) cn) (KL ++ [p]) (wc.setCell ⟨uA.heap.size, 5, none⟩ (.slice (some ⟨gn, 0, none⟩) (KL.length + 1) cn))) := HST.out.step HB.out HTB.out HFA.out g1 g2
                have G2 := Lib.hid g2; have G3 := Lib.hid g3
                have HTC : Hid (wc.heap[uA.heap.size]? = some (.cells (scells s.name s.frm s.days vi).toArray 26 (0, 0))) := (Fr.of_grown g2).blk (HFA.out.blk HST.out.tbk (fun h => h)) (fun h => by have h1 := (own_lt HST.out.own _ h).1; have h2 := HTB.out; omega)
                clear g1 g2 g3
                refine hK.out _ _ trivial ?_
                clear hK K
                simp only [Act.put, List.setIfInBounds_toArray, List.set_cons_zero, List.set_cons_succ, Reg.Kept]
                refine' Reg.G.pure (i := 9) (v := _) rfl (by rfl) (by kernel_rfl) (by kernel_rfl) (by kernel_rfl) (fun _ _ _ h => h) ?hyr21_9 ?rer21_9
                case hyr21_9 => exact fun w => by first | (go_simp; done) | (go_simp; with_reducible rfl)
                simp only [Act.put, List.setIfInBounds_toArray, List.set_cons_zero, List.set_cons_succ]
                refine Reg.G.step (j := 10) (m := []) [] rfl (by kernel_rfl) rfl (by kernel_rfl) (fun K hK => ?_)
                -- Op.store 24 (t120) (t119)
                have k5 : wc.cell? ⟨uA.heap.size, 5, none⟩ = some vi := cell_of_blk HTC.out 5
                have f5 : wc.frozen? ⟨uA.heap.size, 5, none⟩ = false := froz_of_blk HTC.out 5
                go_simp
                clear k5 f5
                refine hK.out _ _ trivial ?_
                clear hK K
                simp only [Act.put, List.setIfInBounds_toArray, List.set_cons_zero, List.set_cons_succ, Reg.Kept]
                refine Reg.G.done (by kernel_rfl) ?_
                have HNEW : Hid (FRl B uA.heap.size s z faA u (.slice (some ⟨gm, 0, none⟩) (R.length + 1) cm) (.int .i64 ((n : Int) + 1)) (.int .i64 ((k : Int) + 1)) (wc.setCell ⟨uA.heap.size, 5, none⟩ (.slice (some ⟨gn, 0, none⟩) (KL.length + 1) cn))) := by
                  refine ⟨k + 1, n + 1, rfl, rfl, hlt, _, KL ++ [p], R ++ [a], ⟨HNX.out, ?_, (fun g hg e => by
                      have e2 : gn = g := by simpa [Value.ownBlock] using e
                      subst e2
                      rcases G3.out with h | h
                      · exact HNE7.out gn hg h
                      · have := (own_lt HRS7.out gn hg).2; omega), ?_, (fun y hy => by
                      rcases List.mem_append.1 hy with hy | hy
                      · exact HFS.out.sub y hy
                      · obtain rfl : y = p := by simpa using hy
                        exact HPM.out), ?_⟩⟩
                  · rw [List.length_append, List.length_cons, List.length_nil]
                    exact HST.out.other HB.out HTB.out HFA.out G2.out HRS7.out HNE7.out _
                  · rw [HFS.out.eq, HDK.out, HDN.out, cutF_hit _ _ _ _ HAP.out, if_neg HNB.out]
                    simp
                  · have := HFS.out.len
                    refine ⟨?_, ?_, by omega⟩
                    · rw [List.length_append, List.length_cons, List.length_nil]; omega
                    · rw [List.length_append, List.length_cons, List.length_nil]; omega
                go_wp2_with fail
                go_roundw
                case rel => exact HNEW.out
                case measure => simp [intOf]; omega
            · have hbp : (a.pos != p.1.pos) = true := by simpa using hap
              go_wp2_with fail
              go_quiet (fail)
              go_upto_region 17 with fail
              have HCUT : Hid (cutF (p.1 :: s.items.drop (k + 1)) (faA.drop n) = (p.1 :: (cutF (s.items.drop (k + 1)) (faA.drop n)).1, (cutF (s.items.drop (k + 1)) (faA.drop n)).2.1, (cutF (s.items.drop (k + 1)) (faA.drop n)).2.2)) := by
                show _ = _
                rw [HDN.out, cutF, if_pos hap]
              obtain ⟨w5, hw5⟩ : ∃ w5, wr.drewN nq = w5 := ⟨_, rfl⟩
              rw [hw5]
              have HF5 : Hid (Fr (fun _ => False) wr w5) := by rw [← hw5]; exact (Fr.refl _ wr).drewN _
              have HST : Hid (AppSt B uA.heap.size s u vi KL w5) := HFS.out.st.keep HF5.out
              have HRS5 : Hid (w5.ownsRow B 82 2 u8 R.length (R.flatMap faultv)) := own_fr HFS.out.rs HF5.out (fun _ _ _ h => h)
              have HSC : Hid (w5.cell? ⟨W.heap.size, 5, none⟩ = some (.slice (some ⟨g0, o, none⟩) z.length ci)) := cell_of_blk (HST.out.fr.blk HSBu.out (fun e => by have h1 := HWT.out; have h2 := HSUA.out; omega)) 5
              have HAT : Hid (At w5 g0 (o + k * 33) (ic p)) := HATW.out.below HGW.out (HBWu.out.trans (HST.out.fr.below HBWu.out.size (fun j h => by have h1 := HWT.out; have h2 := HSUA.out; omega)))
              clear hw5 c5 k5 hbp c6 c7
              refine Reg.G.start (by kernel_rfl) ?_
              refine' Reg.G.pure (i := 0) (v := _) rfl (by rfl) (by kernel_rfl) (by kernel_rfl) (by kernel_rfl) (fun _ _ _ h => h) ?hyr17a_0 ?rer17a_0
              case hyr17a_0 => exact fun w => by first | (go_simp; done) | (go_simp; with_reducible rfl)
              simp only [Act.put, List.setIfInBounds_toArray, List.set_cons_zero, List.set_cons_succ]
              refine' Reg.G.take (i := 1) (v := _) (F := (fun w => w.cell? ⟨uA.heap.size, 5, none⟩ = some vi)) rfl (by rfl) (by kernel_rfl) (by kernel_rfl) (by kernel_rfl) (fun _ _ _ h => h) (cell_of_blk HST.out.tbk 5) ?hyr17a_1 ?rer17a_1
              case hyr17a_1 => intro w hw; first | (go_simp; done) | (go_simp; with_reducible rfl)
              simp only [Act.put, List.setIfInBounds_toArray, List.set_cons_zero, List.set_cons_succ]
              refine' Reg.G.pure (i := 2) (v := _) rfl (by rfl) (by kernel_rfl) (by kernel_rfl) (by kernel_rfl) (fun _ _ _ h => h) ?hyr17a_2 ?rer17a_2
              case hyr17a_2 => exact fun w => by first | (go_simp; done) | (go_simp; with_reducible rfl)
              simp only [Act.put, List.setIfInBounds_toArray, List.set_cons_zero, List.set_cons_succ]
              refine' Reg.G.take (i := 3) (v := _) (F := (fun w => w.cell? ⟨W.heap.size, 5, none⟩ = some (.slice (some ⟨g0, o, none⟩) z.length ci))) rfl (by rfl) (by kernel_rfl) (by kernel_rfl) (by kernel_rfl) (fun _ _ _ h => h) (HSC.out) ?hyr17a_3 ?rer17a_3
              case hyr17a_3 => intro w hw; first | (go_simp; done) | (go_simp; with_reducible rfl)
              simp only [Act.put, List.setIfInBounds_toArray, List.set_cons_zero, List.set_cons_succ]
              refine' Reg.G.pure (i := 4) (v := _) rfl (by rfl) (by kernel_rfl) (by kernel_rfl) (by kernel_rfl) (fun _ _ _ h => h) ?hyr17a_4 ?rer17a_4
              case hyr17a_4 => exact fun w => by first | (go_simp; done) | (go_simp; with_reducible rfl)
              simp only [Act.put, List.setIfInBounds_toArray, List.set_cons_zero, List.set_cons_succ]
              refine' Reg.G.pure (i := 5) (v := _) rfl (by rfl) (by kernel_rfl) (by kernel_rfl) (by kernel_rfl) (fun _ _ _ h => h) ?hyr17a_5 ?rer17a_5
              case hyr17a_5 => exact fun w => by first | (go_simp; done) | (go_simp; with_reducible rfl)
              simp only [Act.put, List.setIfInBounds_toArray, List.set_cons_zero, List.set_cons_succ]
              refine' Reg.G.take (i := 6) (v := _) (F := (fun w => At w g0 (o + k * 33) (ic p))) rfl (by rfl) (by kernel_rfl) (by kernel_rfl) (by kernel_rfl) (fun _ _ _ h => h) (HAT.out) ?hyr17a_6 ?rer17a_6
              case hyr17a_6 => intro w hw; refine run_load_range (P := Tryd.prog) 55 (.tmp 84) ?_ g0 (o + k * 33) ?_ (ic p) _ hw Tryd.underlying55 rfl info_item <;> rfl
              simp only [Act.put, List.setIfInBounds_toArray, List.set_cons_zero, List.set_cons_succ]
              refine Reg.G.step (j := 7) (m := [false, false, true]) [6, 3, 1] rfl (by kernel_rfl) rfl (by kernel_rfl) (fun K hK => ?_)
              -- Op.buildSlice 24 1 #[(0, t85)]
              rw [if_pos (by rfl)]
              refine wp_builtS 24 1 _ rfl #[(0, .agg (ic p).toArray)] (by go_simp) _ _ (HBS.out _) ?_
              obtain ⟨wa, hwa⟩ : ∃ v, (w5.drew).alloc (.cells (ic p).toArray 55) = v := ⟨_, rfl⟩
              rw [hwa]
              have HFA : Hid (Fr (fun _ => False) w5 wa) := by rw [← hwa]; exact (Fr.refl _ w5).drew.alloc _
              have HOA : Hid (wa.ownsRow B 55 33 vi KL.length (KL.flatMap ic)) := own_fr HST.out.own HFA.out (fun _ _ _ h => h)
              have HNA : Hid (∀ j u, (ic p)[j]? = some u → wa.cell? ((⟨w5.heap.size, 0, none⟩ : Addr).add j) = some u) := by rw [← hwa]; exact World.news_of_block (cs := (ic p).toArray) (t := 55) (fr := (0, 0)) (heap_alloc_new w5.drew _)
              have HSA : Hid (wa.heap.size = w5.heap.size + 1) := by show _ = _; rw [← hwa]; simp
              clear hwa
              refine hK.out _ _ ⟨cell_of_blk (HFA.out.blk HST.out.tbk (fun h => h)) 5, trivial⟩ ?_
              clear hK K
              simp only [Act.put, List.setIfInBounds_toArray, List.set_cons_zero, List.set_cons_succ, Reg.Kept]
              refine Reg.G.step (j := 8) (m := [false]) [1] rfl (by kernel_rfl) rfl (by kernel_rfl) (fun K hK => ?_)
              -- Op.call { callee := Callee.builtin Builtin.append, args := #[t80, t86], argTypes := #[24, 24] }
              rw [if_pos (by rfl)]
              refine wp_append_lies wa (.tmp 80) (.tmp 86) 24 rfl B 55 i0 z0 33 368 Tryd.underlying24 hi hz0 hz1 hz2 hzz (by decide) vi KL.length (KL.flatMap ic) (by rfl) HOA.out ⟨w5.heap.size, 0, none⟩ 1 1 (ic p) (by rfl) rfl HNA.out HONP.out (by decide) (by have := HKL.out; simp only [maxLen]; omega) (by have := HKL.out; omega) (by rw [← HB.out]; have h1 := HST.out.fr.size; have h2 := HSA.out; omega) (w5.heap.size + 1) HSA.out ?_
              intro gn cn wc g1 g2 g3 _
              have HNX : Hid (AppSt B uA.heap.size s u (.slice (some ⟨gn, 0, none⟩) (KL.length + 1) cn) (KL ++ [p]) (wc.setCell ⟨uA.heap.size, 5, none⟩ (.slice (some ⟨gn, 0, none⟩) (KL.length + 1) cn))) := HST.out.step HB.out HTB.out HFA.out g1 g2
              have G2 := Lib.hid g2; have G3 := Lib.hid g3
              have HTC : Hid (wc.heap[uA.heap.size]? = some (.cells (scells s.name s.frm s.days vi).toArray 26 (0, 0))) := (Fr.of_grown g2).blk (HFA.out.blk HST.out.tbk (fun h => h)) (fun h => by have h1 := (own_lt HST.out.own _ h).1; have h2 := HTB.out; omega)
              clear g1 g2 g3
              refine hK.out _ _ trivial ?_
              clear hK K
              simp only [Act.put, List.setIfInBounds_toArray, List.set_cons_zero, List.set_cons_succ, Reg.Kept]
              refine' Reg.G.pure (i := 9) (v := _) rfl (by rfl) (by kernel_rfl) (by kernel_rfl) (by kernel_rfl) (fun _ _ _ h => h) ?hyr17a_9 ?rer17a_9
              case hyr17a_9 => exact fun w => by first | (go_simp; done) | (go_simp; with_reducible rfl)
              simp only [Act.put, List.setIfInBounds_toArray, List.set_cons_zero, List.set_cons_succ]
              refine Reg.G.step (j := 10) (m := []) [] rfl (by kernel_rfl) rfl (by kernel_rfl) (fun K hK => ?_)
              -- Op.store 24 (t88) (t87)
              have k5 : wc.cell? ⟨uA.heap.size, 5, none⟩ = some vi := cell_of_blk HTC.out 5
              have f5 : wc.frozen? ⟨uA.heap.size, 5, none⟩ = false := froz_of_blk HTC.out 5
              go_simp
              clear k5 f5
              refine hK.out _ _ trivial ?_
              clear hK K
              simp only [Act.put, List.setIfInBounds_toArray, List.set_cons_zero, List.set_cons_succ, Reg.Kept]
              refine Reg.G.done (by kernel_rfl) ?_
              have HNEW : Hid (FRl B uA.heap.size s z faA u u8 (.int .i64 (n : Int)) (.int .i64 ((k : Int) + 1)) (wc.setCell ⟨uA.heap.size, 5, none⟩ (.slice (some ⟨gn, 0, none⟩) (KL.length + 1) cn))) := by
                refine ⟨k + 1, n, rfl, rfl, hlt, _, KL ++ [p], R, ⟨HNX.out, HST.out.other HB.out HTB.out HFA.out G2.out HRS5.out HFS.out.ne _, (fun g hg e => by
                    have e2 : gn = g := by simpa [Value.ownBlock] using e
                    subst e2
                    rcases G3.out with h | h
                    · exact HFS.out.ne gn hg h
                    · have := (own_lt HRS5.out gn hg).2; omega), ?_, (fun y hy => by
                    rcases List.mem_append.1 hy with hy | hy
                    · exact HFS.out.sub y hy
                    · obtain rfl : y = p := by simpa using hy
                      exact HPM.out), ?_⟩⟩
                · rw [HFS.out.eq, HDK.out, HCUT.out]
                  simp
                · have := HFS.out.len
                  refine ⟨?_, by omega, this.2.2⟩
                  rw [List.length_append, List.length_cons, List.length_nil]; omega
              go_wp2_with fail
              go_roundw
              case rel => exact HNEW.out
              case measure => simp [intOf]; omega
          · have i3 : ¬ ((n : Int) < (faA.length : Int)) := by omega
            have i4 : faA.length ≤ n := by omega
            go_wp2_with fail
            go_quiet (fail)
            go_upto_region 17 with fail
            have HCUT : Hid (cutF (p.1 :: s.items.drop (k + 1)) (faA.drop n) = (p.1 :: (cutF (s.items.drop (k + 1)) (faA.drop n)).1, (cutF (s.items.drop (k + 1)) (faA.drop n)).2.1, (cutF (s.items.drop (k + 1)) (faA.drop n)).2.2)) := by
              show _ = _
              rw [List.drop_eq_nil_of_le i4, cutF]
            obtain ⟨w5, hw5⟩ : ∃ w5, wr.drewN nq = w5 := ⟨_, rfl⟩
            rw [hw5]
            have HF5 : Hid (Fr (fun _ => False) wr w5) := by rw [← hw5]; exact (Fr.refl _ wr).drewN _
            have HST : Hid (AppSt B uA.heap.size s u vi KL w5) := HFS.out.st.keep HF5.out
            have HRS5 : Hid (w5.ownsRow B 82 2 u8 R.length (R.flatMap faultv)) := own_fr HFS.out.rs HF5.out (fun _ _ _ h => h)
            have HSC : Hid (w5.cell? ⟨W.heap.size, 5, none⟩ = some (.slice (some ⟨g0, o, none⟩) z.length ci)) := cell_of_blk (HST.out.fr.blk HSBu.out (fun e => by have h1 := HWT.out; have h2 := HSUA.out; omega)) 5
            have HAT : Hid (At w5 g0 (o + k * 33) (ic p)) := HATW.out.below HGW.out (HBWu.out.trans (HST.out.fr.below HBWu.out.size (fun j h => by have h1 := HWT.out; have h2 := HSUA.out; omega)))
            clear hw5 c5 k5 
            refine Reg.G.start (by kernel_rfl) ?_
            refine' Reg.G.pure (i := 0) (v := _) rfl (by rfl) (by kernel_rfl) (by kernel_rfl) (by kernel_rfl) (fun _ _ _ h => h) ?hyr17b_0 ?rer17b_0
            case hyr17b_0 => exact fun w => by first | (go_simp; done) | (go_simp; with_reducible rfl)
            simp only [Act.put, List.setIfInBounds_toArray, List.set_cons_zero, List.set_cons_succ]
            refine' Reg.G.take (i := 1) (v := _) (F := (fun w => w.cell? ⟨uA.heap.size, 5, none⟩ = some vi)) rfl (by rfl) (by kernel_rfl) (by kernel_rfl) (by kernel_rfl) (fun _ _ _ h => h) (cell_of_blk HST.out.tbk 5) ?hyr17b_1 ?rer17b_1
            case hyr17b_1 => intro w hw; first | (go_simp; done) | (go_simp; with_reducible rfl)
            simp only [Act.put, List.setIfInBounds_toArray, List.set_cons_zero, List.set_cons_succ]
            refine' Reg.G.pure (i := 2) (v := _) rfl (by rfl) (by kernel_rfl) (by kernel_rfl) (by kernel_rfl) (fun _ _ _ h => h) ?hyr17b_2 ?rer17b_2
            case hyr17b_2 => exact fun w => by first | (go_simp; done) | (go_simp; with_reducible rfl)
            simp only [Act.put, List.setIfInBounds_toArray, List.set_cons_zero, List.set_cons_succ]
            refine' Reg.G.take (i := 3) (v := _) (F := (fun w => w.cell? ⟨W.heap.size, 5, none⟩ = some (.slice (some ⟨g0, o, none⟩) z.length ci))) rfl (by rfl) (by kernel_rfl) (by kernel_rfl) (by kernel_rfl) (fun _ _ _ h => h) (HSC.out) ?hyr17b_3 ?rer17b_3
            case hyr17b_3 => intro w hw; first | (go_simp; done) | (go_simp; with_reducible rfl)
            simp only [Act.put, List.setIfInBounds_toArray, List.set_cons_zero, List.set_cons_succ]
            refine' Reg.G.pure (i := 4) (v := _) rfl (by rfl) (by kernel_rfl) (by kernel_rfl) (by kernel_rfl) (fun _ _ _ h => h) ?hyr17b_4 ?rer17b_4
            case hyr17b_4 => exact fun w => by first | (go_simp; done) | (go_simp; with_reducible rfl)
            simp only [Act.put, List.setIfInBounds_toArray, List.set_cons_zero, List.set_cons_succ]
            refine' Reg.G.pure (i := 5) (v := _) rfl (by rfl) (by kernel_rfl) (by kernel_rfl) (by kernel_rfl) (fun _ _ _ h => h) ?hyr17b_5 ?rer17b_5
            case hyr17b_5 => exact fun w => by first | (go_simp; done) | (go_simp; with_reducible rfl)
            simp only [Act.put, List.setIfInBounds_toArray, List.set_cons_zero, List.set_cons_succ]
            refine' Reg.G.take (i := 6) (v := _) (F := (fun w => At w g0 (o + k * 33) (ic p))) rfl (by rfl) (by kernel_rfl) (by kernel_rfl) (by kernel_rfl) (fun _ _ _ h => h) (HAT.out) ?hyr17b_6 ?rer17b_6
            case hyr17b_6 => intro w hw; refine run_load_range (P := Tryd.prog) 55 (.tmp 84) ?_ g0 (o + k * 33) ?_ (ic p) _ hw Tryd.underlying55 rfl info_item <;> rfl
            simp only [Act.put, List.setIfInBounds_toArray, List.set_cons_zero, List.set_cons_succ]
            refine Reg.G.step (j := 7) (m := [false, false, true]) [6, 3, 1] rfl (by kernel_rfl) rfl (by kernel_rfl) (fun K hK => ?_)
            -- Op.buildSlice 24 1 #[(0, t85)]
            rw [if_pos (by rfl)]
            refine wp_builtS 24 1 _ rfl #[(0, .agg (ic p).toArray)] (by go_simp) _ _ (HBS.out _) ?_
            obtain ⟨wa, hwa⟩ : ∃ v, (w5.drew).alloc (.cells (ic p).toArray 55) = v := ⟨_, rfl⟩
            rw [hwa]
            have HFA : Hid (Fr (fun _ => False) w5 wa) := by rw [← hwa]; exact (Fr.refl _ w5).drew.alloc _
            have HOA : Hid (wa.ownsRow B 55 33 vi KL.length (KL.flatMap ic)) := own_fr HST.out.own HFA.out (fun _ _ _ h => h)
            have HNA : Hid (∀ j u, (ic p)[j]? = some u → wa.cell? ((⟨w5.heap.size, 0, none⟩ : Addr).add j) = some u) := by rw [← hwa]; exact World.news_of_block (cs := (ic p).toArray) (t := 55) (fr := (0, 0)) (heap_alloc_new w5.drew _)
            have HSA : Hid (wa.heap.size = w5.heap.size + 1) := by show _ = _; rw [← hwa]; simp
            clear hwa
            refine hK.out _ _ ⟨cell_of_blk (HFA.out.blk HST.out.tbk (fun h => h)) 5, trivial⟩ ?_
            clear hK K
            simp only [Act.put, List.setIfInBounds_toArray, List.set_cons_zero, List.set_cons_succ, Reg.Kept]
            refine Reg.G.step (j := 8) (m := [false]) [1] rfl (by kernel_rfl) rfl (by kernel_rfl) (fun K hK => ?_)
            -- Op.call { callee := Callee.builtin Builtin.append, args := #[t80, t86], argTypes := #[24, 24] }
            rw [if_pos (by rfl)]
            refine wp_append_lies wa (.tmp 80) (.tmp 86) 24 rfl B 55 i0 z0 33 368 Tryd.underlying24 hi hz0 hz1 hz2 hzz (by decide) vi KL.length (KL.flatMap ic) (by rfl) HOA.out ⟨w5.heap.size, 0, none⟩ 1 1 (ic p) (by rfl) rfl HNA.out HONP.out (by decide) (by have := HKL.out; simp only [maxLen]; omega) (by have := HKL.out; omega) (by rw [← HB.out]; have h1 := HST.out.fr.size; have h2 := HSA.out; omega) (w5.heap.size + 1) HSA.out ?_
            intro gn cn wc g1 g2 g3 _
            have HNX : Hid (AppSt B uA.heap.size s u (.slice (some ⟨gn, 0, none⟩) (KL.length + 1) cn) (KL ++ [p]) (wc.setCell ⟨uA.heap.size, 5, none⟩ (.slice (some ⟨gn, 0, none⟩) (KL.length + 1) cn))) := HST.out.step HB.out HTB.out HFA.out g1 g2
            have G2 := Lib.hid g2; have G3 := Lib.hid g3
            have HTC : Hid (wc.heap[uA.heap.size]? = some (.cells (scells s.name s.frm s.days vi).toArray 26 (0, 0))) := (Fr.of_grown g2).blk (HFA.out.blk HST.out.tbk (fun h => h)) (fun h => by have h1 := (own_lt HST.out.own _ h).1; have h2 := HTB.out; omega)
            clear g1 g2 g3
            refine hK.out _ _ trivial ?_
            clear hK K
            simp only [Act.put, List.setIfInBounds_toArray, List.set_cons_zero, List.set_cons_succ, Reg.Kept]
            refine' Reg.G.pure (i := 9) (v := _) rfl (by rfl) (by kernel_rfl) (by kernel_rfl) (by kernel_rfl) (fun _ _ _ h => h) ?hyr17b_9 ?rer17b_9
            case hyr17b_9 => exact fun w => by first | (go_simp; done) | (go_simp; with_reducible rfl)
            simp only [Act.put, List.setIfInBounds_toArray, List.set_cons_zero, List.set_cons_succ]
            refine Reg.G.step (j := 10) (m := []) [] rfl (by kernel_rfl) rfl (by kernel_rfl) (fun K hK => ?_)
            -- Op.store 24 (t88) (t87)
            have k5 : wc.cell? ⟨uA.heap.size, 5, none⟩ = some vi := cell_of_blk HTC.out 5
            have f5 : wc.frozen? ⟨uA.heap.size, 5, none⟩ = false := froz_of_blk HTC.out 5
            go_simp
            clear k5 f5
            refine hK.out _ _ trivial ?_
            clear hK K
            simp only [Act.put, List.setIfInBounds_toArray, List.set_cons_zero, List.set_cons_succ, Reg.Kept]
            refine Reg.G.done (by kernel_rfl) ?_
            have HNEW : Hid (FRl B uA.heap.size s z faA u u8 (.int .i64 (n : Int)) (.int .i64 ((k : Int) + 1)) (wc.setCell ⟨uA.heap.size, 5, none⟩ (.slice (some ⟨gn, 0, none⟩) (KL.length + 1) cn))) := by
              refine ⟨k + 1, n, rfl, rfl, hlt, _, KL ++ [p], R, ⟨HNX.out, HST.out.other HB.out HTB.out HFA.out G2.out HRS5.out HFS.out.ne _, (fun g hg e => by
                  have e2 : gn = g := by simpa [Value.ownBlock] using e
                  subst e2
                  rcases G3.out with h | h
                  · exact HFS.out.ne gn hg h
                  · have := (own_lt HRS5.out gn hg).2; omega), ?_, (fun y hy => by
                  rcases List.mem_append.1 hy with hy | hy
                  · exact HFS.out.sub y hy
                  · obtain rfl : y = p := by simpa using hy
                    exact HPM.out), ?_⟩⟩
              · rw [HFS.out.eq, HDK.out, HCUT.out]
                simp
              · have := HFS.out.len
                refine ⟨?_, by omega, this.2.2⟩
                rw [List.length_append, List.length_cons, List.length_nil]; omega
            go_wp2_with fail
            go_roundw
            case rel => exact HNEW.out
            case measure => simp [intOf]; omega
        · have hkz : k = z.length := by omega
          have hd0 : s.items.drop k = [] := List.drop_eq_nil_of_le (by have := HLZ.out; omega)
          have heq := HFS.out.eq
          rw [hd0] at heq
          have hc : cutF [] (faA.drop n) = ([], [], faA.drop n) := by rw [cutF]
          rw [hc] at heq
          simp only [List.append_nil] at heq
          obtain ⟨r1, r2⟩ := run_faults s.items HI.out
          rw [← HFE.out, heq] at r1 r2
          dsimp only at r1 r2
          have hnl : n = faA.length := by have h := List.drop_eq_nil_iff.1 r1; have := HFS.out.len.2.2; omega
          have HKR : Hid ((Rs.run (KL.map Prod.fst)).2 = R) := r2
          clear heq hc hd0 r1 r2 hi hz0 hz1 hz2 hi8 hy0 hy1 hy2 hzi hzz
          obtain ⟨Av, capv, hvi⟩ := own_form HFS.out.st.own
          subst hvi
          have HLI : Hid (Lies wr KL (.slice Av KL.length capv)) := ⟨Row.of_own HFS.out.st.own (fun _ _ => rfl), fun y hy => ⟨(HZ.out.flat y (HFS.out.sub y hy)).1.below HBWr.out, (HZ.out.flat y (HFS.out.sub y hy)).2⟩⟩
          have s0 : wr.cell? ⟨uA.heap.size, 0, none⟩ = some (.string ⟨s.name.toArray⟩) := (cell_of_blk HFS.out.st.tbk 0).trans rfl
          have s1 : wr.cell? ⟨uA.heap.size, 1, none⟩ = some (.int .i64 s.frm.y) := (cell_of_blk HFS.out.st.tbk 1).trans rfl
          have s2 : wr.cell? ⟨uA.heap.size, 2, none⟩ = some (.int .i64 s.frm.m) := (cell_of_blk HFS.out.st.tbk 2).trans rfl
          have s3 : wr.cell? ⟨uA.heap.size, 3, none⟩ = some (.int .i64 s.frm.d) := (cell_of_blk HFS.out.st.tbk 3).trans rfl
          have s4 : wr.cell? ⟨uA.heap.size, 4, none⟩ = some (.int .i64 s.days) := (cell_of_blk HFS.out.st.tbk 4).trans rfl
          have s5 : wr.cell? ⟨uA.heap.size, 5, none⟩ = some (.slice Av KL.length capv) := (cell_of_blk HFS.out.st.tbk 5).trans rfl
          have HREB := Lib.hid (resolve_any (⟨s.name, s.frm, s.days, KL.map Prod.fst⟩ : Rs.Source) _ KL wr HLI.out rfl (by have := HFS.out.len.1; omega) (fun y hy => by obtain ⟨p, hp, rfl⟩ := List.mem_map.1 hy; have hm : p.1 ∈ s.items := (by rw [← HZS.out]; exact List.mem_map_of_mem (HFS.out.sub p hp)); exact ⟨HOK.out.items _ hm, by have := (HALL.out _ hm).conds; omega⟩) (HBF.out.below HBWr.out))
          go_wp2_with fail
          refine HREB.out.mono ?_
          rintro e rB ⟨vB, rfl, hro, hbr⟩
          obtain ⟨AB, hA⟩ : ∃ A, answer (⟨s.name, s.frm, s.days, KL.map Prod.fst⟩ : Rs.Source) = A := ⟨_, rfl⟩
          rw [ResOut, hA] at hro
          obtain ⟨saB, yaB, faB⟩ := AB
          obtain ⟨HaB, clB, fvB, rfl, hsy, hft, _⟩ := hro
          dsimp only at hsy hft
          have HONEB : Hid ((symc saB yaB.weekend HaB).toArray.all (·.oneCell') = true) := one_symc saB yaB.weekend HaB hsy.hol.form hsy.par.form hsy.rol.form hsy.uni.form hsy.act.form hsy.cla.form
          obtain ⟨AfB, cfB, hfe, _, _⟩ := hft.slice
          rw [List.length_map] at hfe
          subst hfe
          have HSYB := Lib.hid hsy; have HAB := Lib.hid hA; have HFTB := Lib.hid hft; have HBRB := Lib.hid hbr
          clear hsy hft hA hbr s0 s1 s2 s3 s4 s5 HREB
          dsimp only
          iterate 13 go_step
          refine wpList_store_row rfl 39 _ _ rfl rB.heap.size (symc saB yaB.weekend HaB).toArray rfl rfl 39 _ (blk_newn rfl) (info_symc _ _ _) rfl HONEB.out ?_
          simp only [Act.put, List.setIfInBounds_toArray, List.set_cons_zero, List.set_cons_succ]
          rw [World.setRow_alloc_new]
          obtain ⟨uB, hu⟩ : ∃ u, rB.alloc (.cells (symc saB yaB.weekend HaB).toArray 39) = u := ⟨_, rfl⟩
          rw [hu]
          have HQB : Hid (uB.heap[rB.heap.size]? = some (.cells (symc saB yaB.weekend HaB).toArray 39 (0, 0))) := by rw [← hu]; exact blk_newn rfl
          have HBUB : Hid (Below rB.heap.size rB uB) := by rw [← hu]; exact (Below.refl _ rB).alloc (Nat.le_refl _) _
          have HSUB : Hid (uB.heap.size = rB.heap.size + 1) := by show _ = _; rw [← hu]; simp
          clear hu HONEB
          have HFEB : Hid (faB = R) := by
            have h1 := answer_faults (⟨s.name, s.frm, s.days, KL.map Prod.fst⟩ : Rs.Source)
            rw [HAB.out] at h1
            exact h1.trans HKR.out
          have HBAB : Hid (Below wr.heap.size wr uB) := HBRB.out.trans (HBUB.out.mono HBRB.out.size)
          have HRW : Hid (Row uB u8 2 (R.map faultv)) := (Row.of_own HFS.out.rs (fun _ _ => rfl)).below HBAB.out
          have HFB2 : Hid (Row uB (.slice AfB faB.length cfB) 2 (R.map faultv)) := by rw [← HFEB.out]; exact HFTB.out.below HBUB.out
          have HBWB : Hid (Below W.heap.size W uB) := HBWr.out.trans (HBAB.out.mono HBWr.out.size)
          have HFTR := Lib.hid (faults_true R _ u8 uB HFB2.out HRW.out)
          subst hnl
          clear hkz
          go_wp2_with fail
          refine HFTR.out.mono ?_
          rintro e wS ⟨rfl, mm, rfl⟩
          go_wp2_with fail
          go_ret
          exact ⟨by simp, below_drewN HBWB.out _⟩
end Go.Proofs.YtdhjibnkebbejaaDoor
