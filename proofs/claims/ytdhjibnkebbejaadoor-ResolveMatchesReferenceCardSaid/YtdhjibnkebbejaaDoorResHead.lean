/-
  What the function head of the law returns.
-/
import Derived.Test.YtdhjibnkebbejaaDoorResHeadB
namespace Go.Proofs.YtdhjibnkebbejaaDoor.Rs
open Go.RowKit Mem Vw
set_option linter.unusedVariables false
set_option linter.unusedSimpArgs false

set_option maxRecDepth 100000 in
set_option maxHeartbeats 8000000 in
theorem head_any (W : World) (hbf : Bf W) : Calls Tryd.prog 10 #[] W fun e w' => e = .returned (.bool true) ∧ Below W.heap.size W w' := by
  have HBF := Lib.hid hbf; clear hbf
  go_enter Tryd.func10, Tryd.ntmps10
  go_wp2_with fail
  refine (example_any W).mono ?_
  rintro e w1 ⟨b, rfl, rfl, hs1, hc1, hi1, hb1⟩
  dsimp only [scells, sv, nv, exs]
  go_upto_region 2 with fail
  obtain ⟨u, hu⟩ : ∃ u, w1.alloc (.cells #[.string ⟨#[99]⟩, .int .i64 2026, .int .i64 1, .int .i64 5, .int .i64 30, .slice (some ⟨W.heap.size + 1 + 1, 0, none⟩) 6 6] 26) = u := ⟨_, rfl⟩
  rw [hu]
  have HSB : Hid (u.heap[W.heap.size + 3]? = some (.cells #[.string ⟨#[99]⟩, .int .i64 2026, .int .i64 1, .int .i64 5, .int .i64 30, .slice (some ⟨W.heap.size + 1 + 1, 0, none⟩) 6 6] 26 (0, 0))) := by rw [← hu, ← hs1]; exact blk_newn rfl
  have HCB : Hid (u.heap[W.heap.size + 1]? = some (.cells #[.string ⟨#[100]⟩, .int .i64 4] 116 (0, 0))) := by rw [← hu]; exact blk_alloc hc1 _
  have HIB : Hid (u.heap[W.heap.size + 1 + 1]? = some (.cells ((exz (W.heap.size + 1)).flatMap ic).toArray 55 (0, 0))) := by rw [← hu]; exact blk_alloc hi1 _
  have HBL : Hid (Below W.heap.size W u) := by rw [← hu]; exact hb1.alloc (by omega) _
  have hsz : W.heap.size + 4 = u.heap.size := by rw [← hu]; simp [hs1]
  have HSZ := Lib.hid hsz
  clear hu hsz hs1 hc1 hi1 hb1
  have HOW : Hid (u.ownsRow W.heap.size 55 33 (.slice (some ⟨W.heap.size + 1 + 1, 0, none⟩) 6 6) 6 ((exz (W.heap.size + 1)).flatMap ic)) := own_blk HIB.out (by omega) rfl (by decide)
  have HLI : Hid (Lies u (exz (W.heap.size + 1)) (.slice (some ⟨W.heap.size + 1 + 1, 0, none⟩) 6 6)) := ⟨Row.of_own HOW.out (fun _ _ => rfl), fun p hp => exz_flat HCB.out p (List.mem_append_left _ hp)⟩
  have HRE := Lib.hid (resolve_any exs _ _ u HLI.out (exz_fst _) (by show (6 : Nat) ≤ 1000000; omega) (fun x hx => exs_ok x (List.mem_append_left [ex7, ex8] hx)) (HBF.out.below HBL.out))
  have s0 : u.cell? ⟨W.heap.size + 3, 0, none⟩ = some (.string ⟨#[99]⟩) := cell_of_blk HSB.out 0
  have s1 : u.cell? ⟨W.heap.size + 3, 1, none⟩ = some (.int .i64 2026) := cell_of_blk HSB.out 1
  have s2 : u.cell? ⟨W.heap.size + 3, 2, none⟩ = some (.int .i64 1) := cell_of_blk HSB.out 2
  have s3 : u.cell? ⟨W.heap.size + 3, 3, none⟩ = some (.int .i64 5) := cell_of_blk HSB.out 3
  have s4 : u.cell? ⟨W.heap.size + 3, 4, none⟩ = some (.int .i64 30) := cell_of_blk HSB.out 4
  have s5 : u.cell? ⟨W.heap.size + 3, 5, none⟩ = some (.slice (some ⟨W.heap.size + 1 + 1, 0, none⟩) 6 6) := cell_of_blk HSB.out 5
  go_wp2_with fail
  refine HRE.out.mono ?_
  rintro e w2 ⟨v2, rfl, hro, hb2⟩
  rw [ResOut, ans1] at hro
  obtain ⟨H, cl, fv, rfl, hsy, hft, hown⟩ := hro
  have HOWN := Lib.hid hown; clear hown
  have HONE : Hid ((symc exs sy1.weekend H).toArray.all (·.oneCell') = true) := one_symc exs sy1.weekend H hsy.hol.form hsy.par.form hsy.rol.form hsy.uni.form hsy.act.form hsy.cla.form
  have HSY := Lib.hid hsy; have HFT := Lib.hid hft; have HB2 := Lib.hid hb2
  clear hsy hft hb2 s0 s1 s2 s3 s4 s5 HRE
  have HSB2 := Lib.hid ((HB2.out.block _ (lt_of_blk HSB.out)).trans HSB.out)
  have HCB2 := Lib.hid ((HB2.out.block _ (lt_of_blk HCB.out)).trans HCB.out)
  have HOW2 : Hid (w2.ownsRow W.heap.size 55 33 (.slice (some ⟨W.heap.size + 1 + 1, 0, none⟩) 6 6) 6 ((exz (W.heap.size + 1)).flatMap ic)) := own_blk ((HB2.out.block _ (lt_of_blk HIB.out)).trans HIB.out) (by omega) rfl (by decide)
  have HBL2 := Lib.hid (HBL.out.trans (HB2.out.mono HBL.out.size))
  have HL2 : Hid (W.heap.size + 4 ≤ w2.heap.size) := by have h := lt_of_blk HSB2.out; show _ ≤ _; omega
  dsimp only
  iterate 13 go_step
  refine wpList_store_row rfl 39 _ _ rfl w2.heap.size (symc exs sy1.weekend H).toArray rfl rfl 39 _ (blk_newn rfl) (info_symc _ _ _) rfl HONE.out ?_
  simp only [Act.put, List.setIfInBounds_toArray, List.set_cons_zero, List.set_cons_succ]
  rw [World.setRow_alloc_new]
  obtain ⟨u3, hu3⟩ : ∃ u3, w2.alloc (.cells (symc exs sy1.weekend H).toArray 39) = u3 := ⟨_, rfl⟩
  rw [hu3]
  have HQ3 : Hid (u3.heap[w2.heap.size]? = some (.cells (symc exs sy1.weekend H).toArray 39 (0, 0))) := by rw [← hu3]; exact blk_newn rfl
  have HSB3 := Lib.hid (show u3.heap[W.heap.size + 3]? = some (.cells #[.string ⟨#[99]⟩, .int .i64 2026, .int .i64 1, .int .i64 5, .int .i64 30, .slice (some ⟨W.heap.size + 1 + 1, 0, none⟩) 6 6] 26 (0, 0)) by rw [← hu3]; exact blk_alloc HSB2.out _)
  have HCB3 := Lib.hid (show u3.heap[W.heap.size + 1]? = some (.cells #[.string ⟨#[100]⟩, .int .i64 4] 116 (0, 0)) by rw [← hu3]; exact blk_alloc HCB2.out _)
  have HOW3 : Hid (u3.ownsRow W.heap.size 55 33 (.slice (some ⟨W.heap.size + 1 + 1, 0, none⟩) 6 6) 6 ((exz (W.heap.size + 1)).flatMap ic)) := by rw [← hu3]; exact HOW2.out.alloc _
  have HB3 : Hid (Below w2.heap.size w2 u3) := by rw [← hu3]; exact (Below.refl _ w2).alloc (Nat.le_refl _) _
  have HS3 : Hid (u3.heap.size = w2.heap.size + 1) := by show _ = _; rw [← hu3]; simp
  clear hu3 HSB2 HCB2 HOW2 HONE HSB HCB HIB HOW HLI
  have k5 : u3.cell? ⟨W.heap.size + 3, 5, none⟩ = some (.slice (some ⟨W.heap.size + 1 + 1, 0, none⟩) 6 6) := cell_of_blk HSB3.out 5
  go_upto_region 3 with fail
  iterate 7 go_step
  refine wpList_built rfl 55 _ rfl #[(0, .int .i64 1), (1, .string ⟨#[97]⟩), (2, .int .i64 9)] (by go_simp) _ (build_ex7 _) ?_
  simp only [Act.put, List.setIfInBounds_toArray, List.set_cons_zero, List.set_cons_succ]
  refine wpList_built rfl 55 _ rfl #[(0, .int .i64 2), (1, .string ⟨#[114]⟩), (3, .string ⟨#[98]⟩), (2, .int .i64 10)] (by go_simp) _ (build_ex8 _) ?_
  simp only [Act.put, List.setIfInBounds_toArray, List.set_cons_zero, List.set_cons_succ]
  refine wpList_builtS rfl 24 2 _ rfl #[(0, .agg (ic (ex7, sl0)).toArray), (1, .agg (ic (ex8, sl0)).toArray)] (by go_simp) _ _ (bslice2 _) ?_
  simp only [Act.put, List.setIfInBounds_toArray, List.set_cons_zero, List.set_cons_succ]
  obtain ⟨u4, hu4⟩ : ∃ u4, u3.alloc (.cells (exz2.flatMap ic).toArray 55) = u4 := ⟨_, rfl⟩
  rw [hu4]
  have HX4 : Hid (∀ j u, (exz2.flatMap ic)[j]? = some u → u4.cell? ((⟨u3.heap.size, 0, none⟩ : Addr).add j) = some u) := by
    rw [← hu4]; exact World.news_of_block (cs := (exz2.flatMap ic).toArray) (t := 55) (fr := (0, 0)) (heap_alloc_new u3 _)
  have HOW4 : Hid (u4.ownsRow W.heap.size 55 33 (.slice (some ⟨W.heap.size + 1 + 1, 0, none⟩) 6 6) 6 ((exz (W.heap.size + 1)).flatMap ic)) := by rw [← hu4]; exact HOW3.out.alloc _
  have HF4 : Hid (Fr (fun _ => False) u3 u4) := by rw [← hu4]; exact (Fr.refl _ u3).alloc _
  have hsz4 : u4.heap.size = u3.heap.size + 1 := by rw [← hu4]; simp
  have HSZ4 := Lib.hid hsz4
  clear hu4 k5 HOW3
  obtain ⟨z0, hzi, hzs⟩ := info_item3
  obtain ⟨i0, hi, hz0, hz1, hz2⟩ := info_parts hzi
  refine wpList_append_lies _ rfl (.tmp 15) (.tmp 18) 24 rfl W.heap.size 55 i0 z0 33 368 Tryd.underlying24 hi hz0 hz1 hz2 hzs (by decide) (.slice (some ⟨W.heap.size + 1 + 1, 0, none⟩) 6 6) 6 ((exz (W.heap.size + 1)).flatMap ic) rfl HOW4.out ⟨u3.heap.size, 0, none⟩ 2 2 (exz2.flatMap ic) rfl rfl HX4.out (fun u hu => List.all_eq_true.1 one_exz2 u hu) (by decide) (by decide) (by decide) (by have h1 := HL2.out; have h2 := HS3.out; omega) (u3.heap.size + 1) hsz4 ?_
  clear hsz4
  intro g cap w5 g1 g2 g3 g4
  replace g1 : w5.ownsRow W.heap.size 55 33 (.slice (some ⟨g, 0, none⟩) 8 cap) 8 ((exz (W.heap.size + 1)).flatMap ic ++ exz2.flatMap ic) := g1
  change wpList _ _ _ _ (Act.put _ _ (.slice (some ⟨g, 0, none⟩) 8 cap)) _
  have hgW : g ≠ W.heap.size + 3 := by
    have h1 := HL2.out; have h2 := HS3.out
    rcases g3 with h | h
    · have : W.heap.size + 1 + 1 = g := by simpa [Value.ownBlock] using h
      omega
    · omega
  have hgr := Fr.of_grown g2
  have hne : ∀ k, k ≠ W.heap.size + 1 + 1 → ¬ ((Value.slice (some ⟨W.heap.size + 1 + 1, 0, none⟩) 6 6).ownBlock = some k) := fun k hk h => hk (by
    have : W.heap.size + 1 + 1 = k := by simpa [Value.ownBlock] using h
    omega)
  have HSB5 := Lib.hid (hgr.blk (HF4.out.blk HSB3.out (fun h => h)) (hne _ (by omega)))
  have HCB5 := Lib.hid (hgr.blk (HF4.out.blk HCB3.out (fun h => h)) (hne _ (by omega)))
  have HQ5 := Lib.hid (hgr.blk (HF4.out.blk HQ3.out (fun h => h)) (hne _ (by have := HL2.out; omega)))
  have HBW5 : Hid (Below W.heap.size W w5) := (((HBL2.out.trans (HB3.out.mono HBL2.out.size)).trans (HF4.out.below (by have h1 := HL2.out; have h2 := HS3.out; omega) (fun _ h => h.elim))).trans (hgr.below (by have h1 := HL2.out; have h2 := HS3.out; have h3 := HSZ4.out; omega) (fun k h => by
    by_cases hk : k = W.heap.size + 1 + 1
    · omega
    · exact absurd h (hne k hk))))
  have HB25 : Hid (Below w2.heap.size w2 w5 ∨ True) := .inr trivial
  have HF25 : Hid (Fr (fun k => k = W.heap.size + 1 + 1) w2 w5) := ((Fr.of_below HB3.out).trans' HF4.out (fun _ _ h => h.elim)).trans' hgr (fun k _ h => by
    by_cases hk : k = W.heap.size + 1 + 1
    · exact hk
    · exact absurd h (hne k hk))
  have HROW5 : Hid (Row w5 (.slice (some ⟨g, 0, none⟩) 8 cap) 33 ((exz (W.heap.size + 1) ++ exz2).map ic)) := Row.of_own (by rw [List.flatMap_append]; exact g1) (fun _ _ => rfl)
  have HGW := Lib.hid hgW
  have k5 : w5.cell? ⟨W.heap.size + 3, 5, none⟩ = some (.slice (some ⟨W.heap.size + 1 + 1, 0, none⟩) 6 6) := cell_of_blk HSB5.out 5
  have f5 : w5.frozen? ⟨W.heap.size + 3, 5, none⟩ = false := froz_of_blk HSB5.out 5
  simp only [Act.put, List.setIfInBounds_toArray, List.set_cons_zero, List.set_cons_succ]
  clear g1 g2 g3 g4 hgr hne hgW HOW4 HX4 hzi hzs hi hz0 hz1 hz2 HSB3 HCB3 HQ3
  go_upto_region 4 with fail
  obtain ⟨w6, hw6⟩ : ∃ w6, w5.setCell ⟨W.heap.size + 3, 5, none⟩ (.slice (some ⟨g, 0, none⟩) 8 cap) = w6 := ⟨_, rfl⟩
  rw [hw6]
  have hf6 : Fr (fun k => k = W.heap.size + 3) w5 w6 := by rw [← hw6]; exact (Fr.refl (fun k => k = W.heap.size + 3) w5).setCell (p := ⟨W.heap.size + 3, 5, none⟩) (.inl rfl) _
  have HSB6 : Hid (w6.heap[W.heap.size + 3]? = some (.cells #[.string ⟨#[99]⟩, .int .i64 2026, .int .i64 1, .int .i64 5, .int .i64 30, .slice (some ⟨g, 0, none⟩) 8 cap] 26 (0, 0))) := by rw [← hw6]; exact (blk_set HSB5.out 5 _).trans rfl
  have HCB6 := Lib.hid (hf6.blk HCB5.out (by omega))
  have HQ6 := Lib.hid (hf6.blk HQ5.out (by have := HL2.out; omega))
  have HBW6 : Hid (Below W.heap.size W w6) := HBW5.out.trans (hf6.below HBW5.out.size (fun k h => by omega))
  have HROW6 : Hid (Row w6 (.slice (some ⟨g, 0, none⟩) 8 cap) 33 ((exz (W.heap.size + 1) ++ exz2).map ic)) := Row.frg HROW5.out hf6 HGW.out
  have HF26 : Hid (Fr (fun k => k = W.heap.size + 1 + 1 ∨ k = W.heap.size + 3) w2 w6) := (HF25.out.mono (fun _ _ h => .inl h)).trans' hf6 (fun _ _ h => .inr h)
  clear hw6 hf6 k5 f5 HSB5 HCB5 HQ5 HBW5 HROW5 HF25
  have HLI6 : Hid (Lies w6 (exz (W.heap.size + 1) ++ exz2) (.slice (some ⟨g, 0, none⟩) 8 cap)) := ⟨HROW6.out, exz_flat HCB6.out⟩
  have HRE2 := Lib.hid (resolve_any exs2 _ _ w6 HLI6.out (exz2_fst _) (by show (8 : Nat) ≤ 1000000; omega) exs_ok (HBF.out.below HBW6.out))
  have s0 : w6.cell? ⟨W.heap.size + 3, 0, none⟩ = some (.string ⟨#[99]⟩) := cell_of_blk HSB6.out 0
  have s1 : w6.cell? ⟨W.heap.size + 3, 1, none⟩ = some (.int .i64 2026) := cell_of_blk HSB6.out 1
  have s2 : w6.cell? ⟨W.heap.size + 3, 2, none⟩ = some (.int .i64 1) := cell_of_blk HSB6.out 2
  have s3 : w6.cell? ⟨W.heap.size + 3, 3, none⟩ = some (.int .i64 5) := cell_of_blk HSB6.out 3
  have s4 : w6.cell? ⟨W.heap.size + 3, 4, none⟩ = some (.int .i64 30) := cell_of_blk HSB6.out 4
  have s5 : w6.cell? ⟨W.heap.size + 3, 5, none⟩ = some (.slice (some ⟨g, 0, none⟩) 8 cap) := cell_of_blk HSB6.out 5
  go_wp2_with fail
  refine HRE2.out.mono ?_
  rintro e w7 ⟨v7, rfl, hro, hb7⟩
  rw [ResOut, ans2] at hro
  obtain ⟨H7, cl7, fv7, rfl, hsy7, hft7, hown7⟩ := hro
  have HONE7 : Hid ((symc srcz sy0.weekend H7).toArray.all (·.oneCell') = true) := one_symc srcz sy0.weekend H7 hsy7.hol.form hsy7.par.form hsy7.rol.form hsy7.uni.form hsy7.act.form hsy7.cla.form
  have HFT7 := Lib.hid hft7; have HB7 := Lib.hid hb7
  clear hsy7 hft7 hown7 hb7 s0 s1 s2 s3 s4 s5 HRE2
  have HQ7 := Lib.hid ((HB7.out.block _ (lt_of_blk HQ6.out)).trans HQ6.out)
  dsimp only
  iterate 13 go_step
  refine wpList_store_row rfl 39 _ _ rfl w7.heap.size (symc srcz sy0.weekend H7).toArray rfl rfl 39 _ (blk_newn rfl) (info_symc _ _ _) rfl HONE7.out ?_
  simp only [Act.put, List.setIfInBounds_toArray, List.set_cons_zero, List.set_cons_succ]
  rw [World.setRow_alloc_new]
  obtain ⟨u8, hu8⟩ : ∃ u8, w7.alloc (.cells (symc srcz sy0.weekend H7).toArray 39) = u8 := ⟨_, rfl⟩
  rw [hu8]
  have HQ8 : Hid (u8.heap[w2.heap.size]? = some (.cells (symc exs sy1.weekend H).toArray 39 (0, 0))) := by rw [← hu8]; exact blk_alloc HQ7.out _
  have HF28 : Hid (Fr (fun k => k = W.heap.size + 1 + 1 ∨ k = W.heap.size + 3) w2 u8) := by rw [← hu8]; exact (HF26.out.trans' (Fr.of_below (S := fun _ => False) HB7.out) (fun _ _ h => h.elim)).alloc _
  have HBW8 : Hid (Below W.heap.size W u8) := by rw [← hu8]; exact (HBW6.out.trans (HB7.out.mono HBW6.out.size)).alloc (by have h1 := HBW6.out.size; have h2 := HB7.out.size; omega) _
  have hft8 : Row u8 fv7 2 ([⟨9, 9⟩, ⟨8, 10⟩].map faultv) := by rw [← hu8]; exact HFT7.out.below ((Below.refl _ w7).alloc (Nat.le_refl _) _)
  clear hu8 HONE7 HQ7 HFT7 HB7 HSB6 HCB6 HQ6 HBW6 HROW6 HF26 HLI6 HB3 HSZ4 HF4 HGW HB25
  obtain ⟨H0', par, rol, uni, act, cla, flt⟩ := H
  obtain ⟨rhol, rpar, rrol, runi, ract, rcla, rcls, rcnd, _⟩ := HSY.out
  clear HSY
  obtain ⟨⟨c1, st⟩, rfl⟩ : ∃ p, cl = [p] := List.length_eq_one_iff.1 (by have h := congrArg List.length rcls; rw [List.length_map] at h; exact h)
  have hc1 : c1 = (⟨[100], 6, ⟨3, false, []⟩, ⟨0, false, []⟩, ⟨1, 0, 0, 2, [⟨0, 4⟩], true, -1, -1, ⟨0, 1⟩, -1, -1⟩⟩ : ClauseSym) := (List.cons.inj rcls).1
  subst hc1
  obtain ⟨Ap, cp, e2, _, _⟩ := rpar
  obtain ⟨Ar, cr, e3, _, r3⟩ := rrol
  obtain ⟨Au, cu, e4, _, r4⟩ := runi
  obtain ⟨Aa, ca, e5, _, r5⟩ := ract
  obtain ⟨Ac, cc, e6, _, r6⟩ := rcla
  obtain ⟨As, cs, e7, _, _⟩ := rcnd _ (List.mem_cons_self ..)
  obtain ⟨Af, cf, e8, _, _⟩ := HFT.out
  obtain ⟨Ag, cg, e9, _, r9⟩ := hft8
  replace e2 : par = .slice Ap 1 cp := e2
  replace e3 : rol = .slice Ar 1 cr := e3
  replace e4 : uni = .slice Au 2 cu := e4
  replace e5 : act = .slice Aa 1 ca := e5
  replace e6 : cla = .slice Ac 1 cc := e6
  replace e7 : st = .slice As 1 cs := e7
  replace e8 : fv = .slice Af 0 cf := e8
  replace e9 : fv7 = .slice Ag 2 cg := e9
  subst e2 e3 e4 e5 e6 e7 e8 e9
  obtain ⟨gr, o3, rfl, hg3, r3⟩ := r3.resolve_left (by intro e; cases e)
  obtain ⟨gu, o4, rfl, hg4, r4⟩ := r4.resolve_left (by intro e; cases e)
  obtain ⟨ga, o5, rfl, hg5, r5⟩ := r5.resolve_left (by intro e; cases e)
  obtain ⟨gc, o6, rfl, hg6, r6⟩ := r6.resolve_left (by intro e; cases e)
  obtain ⟨gf, o9, rfl, hg9, r9⟩ := r9.resolve_left (by intro e; cases e)
  have hn3 : W.heap.size + 4 ≤ gr := by have := HOWN.out _ (List.mem_cons_of_mem _ (List.mem_cons_self ..)) gr rfl; rw [HSZ.out]; exact this
  have hn4 : W.heap.size + 4 ≤ gu := by have := HOWN.out _ (List.mem_cons_of_mem _ (List.mem_cons_of_mem _ (List.mem_cons_self ..))) gu rfl; rw [HSZ.out]; exact this
  have hn5 : W.heap.size + 4 ≤ ga := by have := HOWN.out _ (List.mem_cons_of_mem _ (List.mem_cons_of_mem _ (List.mem_cons_of_mem _ (List.mem_cons_self ..)))) ga rfl; rw [HSZ.out]; exact this
  have hn6 : W.heap.size + 4 ≤ gc := by have := HOWN.out _ (List.mem_cons_of_mem _ (List.mem_cons_of_mem _ (List.mem_cons_of_mem _ (List.mem_cons_of_mem _ (List.mem_cons_self ..))))) gc rfl; rw [HSZ.out]; exact this
  have hkeep : ∀ g, W.heap.size + 4 ≤ g → g < w2.heap.size → ∀ o i v, w2.cell? ⟨g, o + i, none⟩ = some v → u8.cell? ⟨g, o + i, none⟩ = some v := fun g h1 h2 o i v h => (World.cell?_of_block (a := ⟨g, o + i, none⟩) (HF28.out.block g h2 (fun e => by rcases e with e | e <;> omega))).trans h
  have cr0 : u8.cell? ⟨gr, o3, none⟩ = some (.string ⟨#[115]⟩) := hkeep gr hn3 hg3 (o3 + 0 * 2) 0 _ (r3 0 _ rfl 0 _ rfl)
  have cr1 : u8.cell? ⟨gr, o3 + 1, none⟩ = some (.int .i64 0) := hkeep gr hn3 hg3 (o3 + 0 * 2) 1 _ (r3 0 _ rfl 1 _ rfl)
  have cu0 : u8.cell? ⟨gu, o4, none⟩ = some (.string ⟨#[107, 103]⟩) := hkeep gu hn4 hg4 (o4 + 0 * 5) 0 _ (r4 0 _ rfl 0 _ rfl)
  have cu1 : u8.cell? ⟨gu, o4 + 1, none⟩ = some (.int .i64 1) := hkeep gu hn4 hg4 (o4 + 0 * 5) 1 _ (r4 0 _ rfl 1 _ rfl)
  have cu2 : u8.cell? ⟨gu, o4 + 2, none⟩ = some (.int .i64 1) := hkeep gu hn4 hg4 (o4 + 0 * 5) 2 _ (r4 0 _ rfl 2 _ rfl)
  have cu3 : u8.cell? ⟨gu, o4 + 3, none⟩ = some (.int .i64 1) := hkeep gu hn4 hg4 (o4 + 0 * 5) 3 _ (r4 0 _ rfl 3 _ rfl)
  have cu4 : u8.cell? ⟨gu, o4 + 4, none⟩ = some (.int .i64 1000) := hkeep gu hn4 hg4 (o4 + 0 * 5) 4 _ (r4 0 _ rfl 4 _ rfl)
  have cv0 : u8.cell? ⟨gu, o4 + 5, none⟩ = some (.string ⟨#[116]⟩) := hkeep gu hn4 hg4 (o4 + 1 * 5) 0 _ (r4 1 _ rfl 0 _ rfl)
  have cv1 : u8.cell? ⟨gu, o4 + 6, none⟩ = some (.int .i64 1) := hkeep gu hn4 hg4 (o4 + 1 * 5) 1 _ (r4 1 _ rfl 1 _ rfl)
  have cv2 : u8.cell? ⟨gu, o4 + 7, none⟩ = some (.int .i64 1) := hkeep gu hn4 hg4 (o4 + 1 * 5) 2 _ (r4 1 _ rfl 2 _ rfl)
  have cv3 : u8.cell? ⟨gu, o4 + 8, none⟩ = some (.int .i64 1) := hkeep gu hn4 hg4 (o4 + 1 * 5) 3 _ (r4 1 _ rfl 3 _ rfl)
  have cv4 : u8.cell? ⟨gu, o4 + 9, none⟩ = some (.int .i64 1) := hkeep gu hn4 hg4 (o4 + 1 * 5) 4 _ (r4 1 _ rfl 4 _ rfl)
  have ca0 : u8.cell? ⟨ga, o5, none⟩ = some (.string ⟨#[103, 105, 118, 101]⟩) := hkeep ga hn5 hg5 (o5 + 0 * 9) 0 _ (r5 0 _ rfl 0 _ rfl)
  have ca1 : u8.cell? ⟨ga, o5 + 1, none⟩ = some (.int .i64 5) := hkeep ga hn5 hg5 (o5 + 0 * 9) 1 _ (r5 0 _ rfl 1 _ rfl)
  have ca2 : u8.cell? ⟨ga, o5 + 2, none⟩ = some (.int .i64 1) := hkeep ga hn5 hg5 (o5 + 0 * 9) 2 _ (r5 0 _ rfl 2 _ rfl)
  have ca3 : u8.cell? ⟨ga, o5 + 3, none⟩ = some (.int .i64 0) := hkeep ga hn5 hg5 (o5 + 0 * 9) 3 _ (r5 0 _ rfl 3 _ rfl)
  have ca4 : u8.cell? ⟨ga, o5 + 4, none⟩ = some (.int .i64 0) := hkeep ga hn5 hg5 (o5 + 0 * 9) 4 _ (r5 0 _ rfl 4 _ rfl)
  have ca5 : u8.cell? ⟨ga, o5 + 5, none⟩ = some (.int .i64 (-1)) := hkeep ga hn5 hg5 (o5 + 0 * 9) 5 _ (r5 0 _ rfl 5 _ rfl)
  have ca6 : u8.cell? ⟨ga, o5 + 6, none⟩ = some (.int .i64 0) := hkeep ga hn5 hg5 (o5 + 0 * 9) 6 _ (r5 0 _ rfl 6 _ rfl)
  have ca7 : u8.cell? ⟨ga, o5 + 7, none⟩ = some (.int .i64 5) := hkeep ga hn5 hg5 (o5 + 0 * 9) 7 _ (r5 0 _ rfl 7 _ rfl)
  have ca8 : u8.cell? ⟨ga, o5 + 8, none⟩ = some (.int .i64 1) := hkeep ga hn5 hg5 (o5 + 0 * 9) 8 _ (r5 0 _ rfl 8 _ rfl)
  have cc11 : u8.cell? ⟨gc, o6 + 8 + 3, none⟩ = some (.int .i64 2) := hkeep gc hn6 hg6 (o6 + 0 * 24) 11 _ (r6 0 _ rfl 11 _ rfl)
  have cc12 : u8.cell? ⟨gc, o6 + 8 + 4, none⟩ = some (.slice As 1 cs) := hkeep gc hn6 hg6 (o6 + 0 * 24) 12 _ (r6 0 _ rfl 12 _ rfl)
  have cc21 : u8.cell? ⟨gc, o6 + 8 + 13, none⟩ = some (.int .i64 (-1)) := hkeep gc hn6 hg6 (o6 + 0 * 24) 21 _ (r6 0 _ rfl 21 _ rfl)
  have cf0 : u8.cell? ⟨gf, o9, none⟩ = some (.int .i64 9) := r9 0 _ rfl 0 _ rfl
  have cf1 : u8.cell? ⟨gf, o9 + 1, none⟩ = some (.int .i64 9) := r9 0 _ rfl 1 _ rfl
  have ch0 : u8.cell? ⟨gf, o9 + 2, none⟩ = some (.int .i64 8) := r9 1 _ rfl 0 _ rfl
  have ch1 : u8.cell? ⟨gf, o9 + 3, none⟩ = some (.int .i64 10) := r9 1 _ rfl 1 _ rfl
  have q4 : u8.cell? ⟨w2.heap.size, 13, none⟩ = some (.slice Ap 1 cp) := (cell_of_blk HQ8.out 13).trans rfl
  have q5 : u8.cell? ⟨w2.heap.size, 14, none⟩ = some (.slice (some ⟨gr, o3, none⟩) 1 cr) := (cell_of_blk HQ8.out 14).trans rfl
  have q6 : u8.cell? ⟨w2.heap.size, 15, none⟩ = some (.slice (some ⟨gu, o4, none⟩) 2 cu) := (cell_of_blk HQ8.out 15).trans rfl
  have q7 : u8.cell? ⟨w2.heap.size, 16, none⟩ = some (.slice (some ⟨ga, o5, none⟩) 1 ca) := (cell_of_blk HQ8.out 16).trans rfl
  have q8 : u8.cell? ⟨w2.heap.size, 17, none⟩ = some (.slice (some ⟨gc, o6, none⟩) 1 cc) := (cell_of_blk HQ8.out 17).trans rfl
  clear r3 r4 r5 r6 r9 hn3 hn4 hn5 hn6 hkeep hg3 hg4 hg5 hg6 hg9 rcls rcnd rhol HOWN HFT HQ8 HF28 HBL2 HL2 HS3 HBL HSZ
  go_upto_region 7 with fail
  go_upto_region 8 with fail
  go_upto_region 9 with fail
  go_wp2_with fail
  go_ret
  exact ⟨rfl, HBW8.out⟩
end Go.Proofs.YtdhjibnkebbejaaDoor.Rs
