/-
  What the parser's method source returns.
-/
import Derived.Test.YtfaflipphkoiiaaDoorParTmpl
namespace Go.Proofs.YtfaflipphkoiiaaDoor.Pr
open Go.RowKit Mem
open Lx (Tok)
set_option linter.unusedVariables false

/-- The method item outside of templates. -/
theorem item_all_any (E : Env) (b : Nat) (s : St) (W : World) (h : PW E b s W) (r : Nat) (hr : W.heap[r]? = some (.map allEnts 14)) (hbr : b < r) :
    Calls Tryd.prog 39 #[.pointer (some ⟨b, 0, none⟩), .map (some r)] W fun e w' => ItemEnd E b (item s).1 (item s).2 W e w' := by
  have := item_any allWords allEnts 14 tab_all E b (fun x k hx s W hP => ?_) s W h r hr hbr
  · rw [itemI_all] at this
    exact this
  · have hk := lookup_all hx
    by_cases h13 : k = 13
    · subst h13
      exact template_any E b s W hP
    · exact body_any k (by omega) E b s W hP
theorem expect2 (E : Env) (b : Nat) (s : St) (x y : Bytes) (W1 : World) (g : Nat) (hg : g = W1.heap.size) (h : PW E b s W1) :
    Calls Tryd.prog 33 #[.pointer (some ⟨b, 0, none⟩), .slice (some ⟨g, 0, none⟩) 2 2] (W1.alloc (.cells #[.string ⟨x.toArray⟩, .string ⟨y.toArray⟩] 9)) fun e w' => e = .returned (.tuple #[]) ∧ After E b (expect [x, y] s).2 W1 w' := by
  subst hg
  refine (expect_any E b s [x, y] W1.heap.size 0 2 _ (h.alloc _) (by simp) h.2.2.1 ?_ (by simp)).mono fun e w' ⟨he, ha⟩ => ⟨he, ((After.start h).alloc _).trans ha⟩
  intro i hi
  have hi0 : i = 0 ∨ i = 1 := by simp at hi; omega
  rcases hi0 with rfl | rfl
  · exact cell_of_blk (blk_new W1 _) 0
  · exact cell_of_blk (blk_new W1 _) 1
/-- The cells of a source. -/
def srcells (n : Bytes) (c : Civil) (k : Nat) (si : Value) : List Value := [.string ⟨n.toArray⟩, .int .i64 (c.y : Int), .int .i64 (c.m : Int), .int .i64 (c.d : Int), .int .i64 (k : Int), si]
def SB (q : Nat) (n : Bytes) (c : Civil) (k : Nat) (si : Value) (W : World) : Prop := W.heap[q]? = some (.cells (srcells n c k si).toArray 27 (0, 0))
def civ0 : Civil := ⟨0, 0, 0⟩
theorem info_src : (Tryd.prog.info? 27).map (·.size) = some 6 := by kernel_rfl
theorem SB.there {q : Nat} {n : Bytes} {c : Civil} {k : Nat} {si : Value} {W : World} (h : SB q n c k si W) : W.there q 0 6 := by
  intro j hj
  rw [Nat.zero_add]
  refine ⟨?_, froz_of_blk h j⟩
  rw [cell_of_blk h]
  have : j < (srcells n c k si).length := hj
  simp [this]
theorem SB.range {q : Nat} {n : Bytes} {c : Civil} {k : Nat} {si : Value} {W : World} (h : SB q n c k si W) : W.rangeAt q 0 (srcells n c k si) := by
  intro j v hj
  rw [Nat.zero_add, cell_of_blk h]
  simpa using hj
theorem srcells_one (n : Bytes) (c : Civil) (k : Nat) (si : Value) (h : ∃ A n c, si = .slice A n c) : (srcells n c k si).toArray.all (·.oneCell') = true := by
  obtain ⟨_, _, _, rfl⟩ := h
  simp [srcells, Value.oneCell']
theorem SB.set_n {q : Nat} {n : Bytes} {c : Civil} {k : Nat} {si : Value} {W : World} (h : SB q n c k si W) (x : Bytes) : SB q x c k si (W.setCell ⟨q, 0, none⟩ (.string ⟨x.toArray⟩)) := by
  have h2 := blk_set h 0 (.string ⟨x.toArray⟩)
  exact h2
theorem SB.set_c {q : Nat} {n : Bytes} {c : Civil} {k : Nat} {si : Value} {W : World} (h : SB q n c k si W) (x : Civil) : SB q n x k si (((W.setCell ⟨q, 1, none⟩ (.int .i64 (x.y : Int))).setCell ⟨q, 2, none⟩ (.int .i64 (x.m : Int))).setCell ⟨q, 3, none⟩ (.int .i64 (x.d : Int))) := by
  have h2 := blk_set (blk_set (blk_set h 1 (.int .i64 (x.y : Int))) 2 (.int .i64 (x.m : Int))) 3 (.int .i64 (x.d : Int))
  exact h2
theorem SB.set_k {q : Nat} {n : Bytes} {c : Civil} {k : Nat} {si : Value} {W : World} (h : SB q n c k si W) (x : Nat) : SB q n c x si (W.setCell ⟨q, 4, none⟩ (.int .i64 (x : Int))) := by
  have h2 := blk_set h 4 (.int .i64 (x : Int))
  exact h2
theorem SB.set_si {q : Nat} {n : Bytes} {c : Civil} {k : Nat} {si : Value} {W : World} (h : SB q n c k si W) (x : Value) : SB q n c k x (W.setCell ⟨q, 5, none⟩ x) := by
  have h2 := blk_set h 5 x
  exact h2
/-- The end of a function that returns a source. -/
theorem src_end {E : Env} {b : Nat} {s : St} {W w2 : World} {n0 : Bytes} {c0 : Civil} {k0 : Nat} {v0 : Value} (HR : SB W.heap.size n0 c0 k0 v0 w2) (HA : After E b s W w2) (hb : b < W.heap.size) (n : Bytes) (c : Civil) (k : Nat) (si : Value) :
    ∃ w3, w2.setCells W.heap.size 0 (srcells n c k si).toArray.toList = w3 ∧ After E b s W w3 ∧ (loadVar 27 ⟨W.heap.size, 0, none⟩).run Tryd.prog w3 = .ok (.agg (srcells n c k si).toArray) w3 ∧
      (∀ base e z v n xs, W.heap.size < base → w2.ownsRow base e z v n xs → w3.ownsRow base e z v n xs) := by
  refine ⟨_, rfl, HA.setCells (Nat.le_refl _) hb _ _, ?_, ?_⟩
  · rw [List.toList_toArray]
    exact run_loadVar_mid _ _ _ _ (srcells n c k si) _ (World.rangeAt_setCells_same _ _ _ _ HR.there) Tryd.underlying27 rfl info_src
  · intro base e z v n xs hl ho
    exact own_fr ho (Fr.setCells (S := fun k => k = W.heap.size) (.inl rfl) _ _ _ (Fr.refl _ _)) (fun k hk _ e => by omega)
/-- What the loop over items holds. -/
def SRel (E : Env) (b q : Nat) (n : Bytes) (c : Civil) (k : Nat) (w0 : World) (R : List Item) (sr : St) (wr : World) : Prop :=
  ∃ (l : List Item) (s' : St) (f : Nat) (vs : List Sl) (si : Value), SB q n c k si wr ∧ RowSv w0.heap.size l vs si wr ∧ After2 E b q s' w0 wr ∧ (s'.err = 0 → s'.rest.length < f) ∧ l.length + s'.rest.length + (if s'.err = 0 then 1 else 0) ≤ 5002 ∧ (l ++ (itemsMore f s').1, (itemsMore f s').2) = (R, sr)

set_option maxRecDepth 100000 in
set_option maxHeartbeats 4000000 in
theorem source_any (E : Env) (b : Nat) (s : St) (W : World) (h : PW E b s W) :
    Calls Tryd.prog 22 #[.pointer (some ⟨b, 0, none⟩)] W fun e w' => (∃ si, e = .returned (.agg (srcells (source s).1.name (source s).1.frm (source s).1.days si).toArray) ∧ RowS W.heap.size (source s).1.items si w') ∧ After E b (source s).2 W w' := by
  have hbl := h.2.2.1
  obtain ⟨zv, hzz, hz33⟩ := info_itemz
  obtain ⟨i0, hi, hz0, hz1, hz2⟩ := info_parts hzz
  obtain ⟨u1, s1, h1⟩ : ∃ x s', expect [[99, 111, 110, 116, 114, 97, 99, 116]] s = (x, s') := ⟨_, _, rfl⟩
  obtain ⟨n, s2, h2⟩ : ∃ x s', name s1 = (x, s') := ⟨_, _, rfl⟩
  obtain ⟨u3, s3, h3⟩ : ∃ x s', expect [[102, 114, 111, 109]] s2 = (x, s') := ⟨_, _, rfl⟩
  obtain ⟨c, s4, h4⟩ : ∃ x s', date s3 = (x, s') := ⟨_, _, rfl⟩
  obtain ⟨u5, s5, h5⟩ : ∃ x s', expect [[102, 111, 114]] s4 = (x, s') := ⟨_, _, rfl⟩
  obtain ⟨k, s6, h6⟩ : ∃ x s', number s5 = (x, s') := ⟨_, _, rfl⟩
  obtain ⟨u7, s7, h7⟩ : ∃ x s', expect [[100, 97, 121, 115], [59]] s6 = (x, s') := ⟨_, _, rfl⟩
  obtain ⟨R, sr, h8⟩ : ∃ R sr, long itemsMore s7 = (R, sr) := ⟨_, _, rfl⟩
  have hh : header s = (⟨n, c, k, []⟩, s7) := (seq_eq h1).trans ((bnd_eq h2).trans ((seq_eq h3).trans ((bnd_eq h4).trans ((seq_eq h5).trans ((bnd_eq h6).trans ((seq_eq h7).trans rfl))))))
  have hp : source s = (⟨n, c, k, R⟩, sr) := (bnd_eq hh).trans ((bnd_eq h8).trans rfl)
  rw [hp]
  have HP := Lib.hid h; have H1 := Lib.hid h1; have H2 := Lib.hid h2; have H3 := Lib.hid h3; have H4 := Lib.hid h4; have H5 := Lib.hid h5; have H6 := Lib.hid h6; have H7 := Lib.hid h7; have H8 := Lib.hid h8
  clear h h1 h2 h3 h4 h5 h6 h7 h8 hp hzz hh
  go_enter Tryd.func22, Tryd.ntmps22
  go_wp2_with fail
  refine (expect1 E b s [99, 111, 110, 116, 114, 97, 99, 116] _ _ (by simp) (((After.start HP.out).alloc _).alloc _).1).mono ?_
  rw [H1.out]
  rintro e w1 ⟨rfl, hA⟩
  have HR1 : Hid (SB W.heap.size [] civ0 0 nil w1) := hA.2.blk (blk_alloc (blk_newn (by simp)) _) (by omega)
  have HS1 : Hid (SB (W.heap.size + 1) [] civ0 0 nil w1) := hA.2.blk (blk_newn (by simp)) (by omega)
  have HA1 := Lib.hid ((((After.start HP.out).alloc _).alloc _).trans hA); clear hA
  go_wp2_with fail
  refine (name_any E b s1 _ HA1.out.1).mono ?_
  rw [H2.out]
  rintro e w2 ⟨rfl, hA⟩
  have HR2 : Hid (SB W.heap.size [] civ0 0 nil w2) := hA.2.blk HR1.out (by omega)
  have HS2 : Hid (SB (W.heap.size + 1) [] civ0 0 nil w2) := hA.2.blk HS1.out (by omega)
  have HA2 := Lib.hid (HA1.out.trans hA); clear hA HR1 HS1 HA1
  have k0 : w2.cell? ⟨W.heap.size + 1, 0, none⟩ = some (.string ⟨#[]⟩) := cell_of_blk HS2.out 0
  have f0 : w2.frozen? ⟨W.heap.size + 1, 0, none⟩ = false := froz_of_blk HS2.out 0
  go_wp2_with fail
  refine (expect1 E b s2 [102, 114, 111, 109] _ _ (by simp) (HA2.out.set (i := 0) (by omega) (by omega) (.string ⟨n.toArray⟩)).1).mono ?_
  rw [H3.out]
  rintro e w3 ⟨rfl, hA⟩
  have HR3 : Hid (SB W.heap.size [] civ0 0 nil w3) := hA.2.blk (blk_farq HR2.out (by omega) (.string ⟨n.toArray⟩)) (by omega)
  have HS3 : Hid (SB (W.heap.size + 1) n civ0 0 nil w3) := hA.2.blk (SB.set_n HS2.out n) (by omega)
  have HA3 := Lib.hid ((HA2.out.set (i := 0) (by omega) (by omega) (.string ⟨n.toArray⟩)).trans hA); clear hA HR2 HS2 HA2 k0 f0
  go_wp2_with fail
  refine (date_any E b s3 _ HA3.out.1).mono ?_
  rw [H4.out]
  rintro e w4 ⟨rfl, hA⟩
  have HR4 : Hid (SB W.heap.size [] civ0 0 nil w4) := hA.2.blk HR3.out (by omega)
  have HS4 : Hid (SB (W.heap.size + 1) n civ0 0 nil w4) := hA.2.blk HS3.out (by omega)
  have HA4 := Lib.hid (HA3.out.trans hA); clear hA HR3 HS3 HA3
  have k1 : w4.cell? ⟨W.heap.size + 1, 1, none⟩ = some (.int .i64 0) := cell_of_blk HS4.out 1
  have k2 : w4.cell? ⟨W.heap.size + 1, 2, none⟩ = some (.int .i64 0) := cell_of_blk HS4.out 2
  have k3 : w4.cell? ⟨W.heap.size + 1, 3, none⟩ = some (.int .i64 0) := cell_of_blk HS4.out 3
  have f1 : w4.frozen? ⟨W.heap.size + 1, 1, none⟩ = false := froz_of_blk HS4.out 1
  have f2 : w4.frozen? ⟨W.heap.size + 1, 2, none⟩ = false := froz_of_blk HS4.out 2
  have f3 : w4.frozen? ⟨W.heap.size + 1, 3, none⟩ = false := froz_of_blk HS4.out 3
  go_wp2_with fail
  refine (expect1 E b s4 [102, 111, 114] _ _ (by simp) (((HA4.out.set (i := 1) (by omega) (by omega) (.int .i64 (c.y : Int))).set (i := 2) (by omega) (by omega) (.int .i64 (c.m : Int))).set (i := 3) (by omega) (by omega) (.int .i64 (c.d : Int))).1).mono ?_
  rw [H5.out]
  rintro e w5 ⟨rfl, hA⟩
  have HR5 : Hid (SB W.heap.size [] civ0 0 nil w5) := hA.2.blk (blk_farq (blk_farq (blk_farq HR4.out (by omega) _) (by omega) _) (by omega) _) (by omega)
  have HS5 : Hid (SB (W.heap.size + 1) n c 0 nil w5) := hA.2.blk (SB.set_c HS4.out c) (by omega)
  have HA5 := Lib.hid ((((HA4.out.set (i := 1) (by omega) (by omega) (.int .i64 (c.y : Int))).set (i := 2) (by omega) (by omega) (.int .i64 (c.m : Int))).set (i := 3) (by omega) (by omega) (.int .i64 (c.d : Int))).trans hA); clear hA HR4 HS4 HA4 k1 k2 k3 f1 f2 f3
  go_wp2_with fail
  refine (number_any E b s5 _ HA5.out.1).mono ?_
  rw [H6.out]
  rintro e w6 ⟨rfl, hA⟩
  have HR6 : Hid (SB W.heap.size [] civ0 0 nil w6) := hA.2.blk HR5.out (by omega)
  have HS6 : Hid (SB (W.heap.size + 1) n c 0 nil w6) := hA.2.blk HS5.out (by omega)
  have HA6 := Lib.hid (HA5.out.trans hA); clear hA HR5 HS5 HA5
  have k4 : w6.cell? ⟨W.heap.size + 1, 4, none⟩ = some (.int .i64 0) := cell_of_blk HS6.out 4
  have f4 : w6.frozen? ⟨W.heap.size + 1, 4, none⟩ = false := froz_of_blk HS6.out 4
  go_wp2_with fail
  refine (expect2 E b s6 [100, 97, 121, 115] [59] _ _ (by simp) (HA6.out.set (i := 4) (by omega) (by omega) (.int .i64 (k : Int))).1).mono ?_
  rw [H7.out]
  rintro e w7 ⟨rfl, hA⟩
  have HR7 : Hid (SB W.heap.size [] civ0 0 nil w7) := hA.2.blk (blk_farq HR6.out (by omega) _) (by omega)
  have HS7 : Hid (SB (W.heap.size + 1) n c k nil w7) := hA.2.blk (SB.set_k HS6.out k) (by omega)
  have HA7 := Lib.hid ((HA6.out.set (i := 4) (by omega) (by omega) (.int .i64 (k : Int))).trans hA); clear hA HR6 HS6 HA6 k4 f4
  have hq7 := lt_of_blk HS7.out
  go_wp2_with fail
  refine (allKinds_any _).mono ?_
  rintro e w8 ⟨rfl, hm, hfr⟩
  have HR0 : Hid (SB W.heap.size [] civ0 0 nil w8) := hfr.blk HR7.out (fun h => h)
  have HS0 : Hid (SB (W.heap.size + 1) n c k nil w8) := hfr.blk HS7.out (fun h => h)
  have HA0 : Hid (After E b s7 W w8) := ⟨HA7.out.1.fr hfr (fun k hk h => h), HA7.out.2.trans' hfr (fun i hi h => h.elim)⟩
  have HM0 := Lib.hid hm
  have hr8 := lt_of_blk hm
  clear hm hfr HA7 HR7 HS7
  generalize hrr : w7.heap.size = r at *
  have hln := HA0.out.1.len
  go_wp2_with fail
  go_loopw [] (fun wr => SRel E b (W.heap.size + 1) n c k w8 R sr wr) (fun wr => 2 * lft E b wr + okn b wr)
  case atStart => exact ⟨[], s7, s7.rest.length + 1, [], nil, HS0.out, RowSv.nil _ _, After2.start HA0.out.1, fun _ => by omega, by simp; split <;> omega, by have := H8.out; unfold long at this; rw [this]; rfl⟩
  case round =>
    obtain ⟨l, s', f, vs, si, hI, hRS, hA, hf, hb, hX⟩ := hrel
    have hlf := hA.1.lft
    have hok := hA.1.okn
    have hsz := hA.2.size
    obtain ⟨A5, cap5, rfl⟩ := hRS.form
    obtain ⟨n0, hn1, hn2, c0, c1, _, _, c4, _⟩ := hA.1.cells
    have hl5 := hA.1.1
    have HA := Lib.hid hA; clear hA
    have HI := Lib.hid hI; clear hI
    have HRS := Lib.hid hRS; clear hRS
    by_cases he : s'.err = 0
    · cases hr : s'.rest with
      | nil =>
        rw [itemsMore_end f s' (.inr hr)] at hX
        have hsr : s' = sr := by injection hX
        have hRl : l = R := by have := congrArg Prod.fst hX; simpa using this
        subst hRl hsr
        rw [hr] at hn2
        have hn := drop_nil hn2 hn1
        have hlt : decide (n0 < E.ts.length) = false := decide_eq_false (by omega)
        have HE := Lib.hid he; have HNN := Lib.hid hn
        clear hX he hlf hok hf hb hr hn2 hn
        go_wp2_with fail
        go_quiet ((go_at_call 38; exact Calls.quiet_of_same (ok_yes E b s' _ (HA.out.1.drewN _) HE.out)))
        have HA9 : Hid (After2 E b (W.heap.size + 1) s' w8 (wr.drewN nq)) := HA.out.drewN nq
        have HI9 : Hid (SB (W.heap.size + 1) n c k (.slice A5 l.length cap5) (wr.drewN nq)) := HI.out
        have HRS9 : Hid (RowSv w8.heap.size l vs (.slice A5 l.length cap5) (wr.drewN nq)) := HRS.out
        have HAW := Lib.hid (HA0.out.ptr HA9.out (by omega))
        have HR9 : Hid (SB W.heap.size [] civ0 0 nil (wr.drewN nq)) := HA9.out.2.blk HR0.out (by omega)
        clear HA HI HRS c0 c1 c4
        generalize wr.drewN nq = w9 at *
        obtain ⟨w99, hw99, hA99, hl99, ho99⟩ := src_end HR9.out HAW.out hbl n c k (.slice A5 l.length cap5)
        have RS99 : Hid (RowSv W.heap.size l vs (.slice A5 l.length cap5) w99) := HRS9.out.carry fun e z v n xs ho => own_base (ho99 _ _ _ _ _ _ (by omega) ho) (by omega)
        have HW99 := Lib.hid hw99; clear hw99
        have HA99 := Lib.hid hA99; clear hA99
        have HL99 := Lib.hid hl99; clear hl99 ho99
        go_wp2_with (first | (refine wpList_load_mid rfl 27 _ rfl (W.heap.size + 1) 0 rfl (srcells n c k (.slice A5 l.length cap5)) _ HI9.out.range Tryd.underlying27 rfl info_src ?_) | (refine wpList_store_mid rfl 27 _ _ rfl W.heap.size 0 (srcells n c k (.slice A5 l.length cap5)).toArray rfl rfl HR9.out.there info_src (srcells_one _ _ _ _ ⟨_, _, _, rfl⟩) ?_; rw [HW99.out]))
        exact bodyPost_ret (v := .agg (srcells n c k (.slice A5 l.length cap5)).toArray) (results_cell Tryd.results22 rfl HL99.out) rfl ⟨⟨_, rfl, vs, RS99.out⟩, HA99.out⟩
      | cons t rs =>
        obtain ⟨f, rfl⟩ : ∃ g, f = g + 1 := ⟨f - 1, by have := hf he; omega⟩
        rw [itemsMore_succ f s' he (by rw [hr]; simp)] at hX
        rw [hr] at hn2
        have hn : n0 < E.ts.length := by obtain ⟨h, _⟩ := drop_cons hn2; exact h
        have hpr := item_prog s'
        obtain ⟨x, sx, hx⟩ : ∃ x sx, item s' = (x, sx) := ⟨_, _, rfl⟩
        rw [hx] at hX hpr
        have hf2 := hf he
        rw [if_pos he] at hb hok
        have hlt : decide (n0 < E.ts.length) = true := decide_eq_true hn
        have HX := Lib.hid hX; have HXX := Lib.hid hx; have HE := Lib.hid he; have HLF := Lib.hid hlf; have HOK := Lib.hid hok; have HNN := Lib.hid hn
        clear hX hx he hlf hok hf hr hn2 hn
        go_wp2_with fail
        go_quiet ((go_at_call 38; exact Calls.quiet_of_same (ok_yes E b s' _ (HA.out.1.drewN _) HE.out)))
        have HAq : Hid (After2 E b (W.heap.size + 1) s' w8 (wr.drewN nq)) := HA.out.drewN nq
        have HIq : Hid (SB (W.heap.size + 1) n c k (.slice A5 l.length cap5) (wr.drewN nq)) := HI.out
        have HRq : Hid (RowSv w8.heap.size l vs (.slice A5 l.length cap5) (wr.drewN nq)) := HRS.out
        have hszq : (wr.drewN nq).heap.size = wr.heap.size := rfl
        clear HA HI HRS c0 c1 c4
        generalize wr.drewN nq = w9 at *
        have HAd : Hid (After2 E b (W.heap.size + 1) s' w8 w9.drew) := HAq.out.drewN 1
        have HId : Hid (SB (W.heap.size + 1) n c k (.slice A5 l.length cap5) w9.drew) := HIq.out
        have HRd : Hid (RowSv w8.heap.size l vs (.slice A5 l.length cap5) w9.drew) := HRq.out
        have HMd : Hid (w9.drew.heap[r]? = some (.map allEnts 14)) := HAd.out.2.blk HM0.out (by omega)
        have hqlt := lt_of_blk HId.out
        have k5 : w9.cell? ⟨W.heap.size + 1, 5, none⟩ = some (.slice A5 l.length cap5) := cell_of_blk HId.out 5
        clear HAq HIq HRq
        go_wp2_with fail
        go_region_law (first | (refine step_call2 rfl 39 _ _ _ rfl ent_item (.pointer (some ⟨b, 0, none⟩)) (.map (some r)) (by rfl) (by rfl) (item_all_any E b s' w9.drew HAd.out.1 r HMd.out (by omega)) ?_; rw [HXX.out]; rintro e v2 ⟨⟨sc, sd, sn, sj, rfl, hF2, hI2⟩, hA2⟩; refine ⟨_, rfl, ?_⟩; have HA2 := Lib.hid (HAd.out.trans hA2); have HI2 : Hid (SB (W.heap.size + 1) n c k (.slice A5 l.length cap5) v2) := (hA2.2.blk HId.out (by omega)); have HF2 := Lib.hid hF2; have HJ2 := Lib.hid hI2; have hil := icells_len x.flat sc sd sn sj; have hif := fold_icells x.flat sc sd sn sj; have HFR2 := Lib.hid hA2.2; have HR2 := Lib.hid (HRd.out.fr hA2.2 (fun k hk _ e => by omega)); have j5 : v2.cell? ⟨W.heap.size + 1, 5, none⟩ = some (.slice A5 l.length cap5) := (cell_of_blk HI2.out 5); have j5a : ∀ o, (v2.alloc o).cell? ⟨W.heap.size + 1, 5, none⟩ = some (.slice A5 l.length cap5) := (fun o => cell_of_blk (blk_alloc HI2.out o) 5); have hz2w := hA2.2.size; clear hA2 hF2 hI2) | (refine step_append_lies _ rfl (.tmp 42) (.tmp 46) 25 rfl w8.heap.size 57 i0 _ 33 368 Tryd.underlying25 hi hz0 hz1 hz2 hz33 (by decide) (.slice A5 l.length cap5) l.length _ (by rfl) (HR2.out.2.2.1.alloc _) ⟨v2.heap.size, 0, none⟩ 1 1 (icells x.flat sc sd sn sj) (by rfl) (by rfl) (World.news_of_block (cs := (icells x.flat sc sd sn sj).toArray) (t := 57) (fr := (0, 0)) (heap_alloc_new v2 _)) (icells_one' _ _ _ _ _ HF2.out.forms.1 HF2.out.forms.2.1 HF2.out.forms.2.2 HJ2.out.form) (by decide) (by simp only [maxLen]; omega) (by omega) (by simp only [World.size_alloc]; have : w9.drew.heap.size = w9.heap.size := rfl; omega) (v2.heap.size + 1) (by simp) ?_; intro gg cap1 w5 hown5 hgrow hat hlt5; have HS5 := Lib.hid (HRd.out.snoc HFR2.out (fun k hk _ e => by omega) (by show _ ≤ w9.heap.size; omega) HF2.out HJ2.out hgrow hown5 hat); have HA5 := Lib.hid (HA2.out.grown hgrow (fun g hg => (own_lt HR2.out.2.2.1 g hg).1) (by omega)); have HI5 : Hid (SB (W.heap.size + 1) n c k (.slice A5 l.length cap5) w5) := (grown_blk hgrow HI2.out (fun g hg e => by have := (own_lt HR2.out.2.2.1 g hg).1; omega)); have e0 : w5.cell? ⟨W.heap.size + 1, 5, none⟩ = some (.slice A5 l.length cap5) := (cell_of_blk HI5.out 5); have e1 : w5.frozen? ⟨W.heap.size + 1, 5, none⟩ = false := (froz_of_blk HI5.out 5); clear hown5 hgrow hat))
        all_goals
          have HI6 := Lib.hid (SB.set_si HI5.out (.slice (some ⟨gg, 0, none⟩) (l.length + 1) cap1))
          have HS6 := Lib.hid (HS5.out.set (q := W.heap.size + 1) (i := 5) (by omega) (.slice (some ⟨gg, 0, none⟩) (l.length + 1) cap1))
          have HA6 := Lib.hid (HA5.out.set (i := 5) (by omega) (.slice (some ⟨gg, 0, none⟩) (l.length + 1) cap1))
          have hlf6 := HA6.out.1.lft
          have hok6 := HA6.out.1.okn
          have HN : Hid (SRel E b (W.heap.size + 1) n c k w8 R sr (w5.setCell ⟨W.heap.size + 1, 5, none⟩ (.slice (some ⟨gg, 0, none⟩) (l.length + 1) cap1))) := by
            refine ⟨l ++ [x], sx, f, _, _, HI6.out, HS6.out, HA6.out, fun he => by have := hpr.2 he; omega, ?_, by rw [← HX.out]; simp⟩
            rw [List.length_append]
            simp only [List.length_cons, List.length_nil]
            by_cases he : sx.err = 0
            · rw [if_pos he]; have := hpr.2 he; omega
            · rw [if_neg he]; have := hpr.1; omega
          have HM : Hid (2 * lft E b (w5.setCell ⟨W.heap.size + 1, 5, none⟩ (.slice (some ⟨gg, 0, none⟩) (l.length + 1) cap1)) + okn b (w5.setCell ⟨W.heap.size + 1, 5, none⟩ (.slice (some ⟨gg, 0, none⟩) (l.length + 1) cap1)) < 2 * lft E b wr + okn b wr) := by
            show _ < _
            rw [hlf6, hok6, HLF.out, HOK.out]
            show 2 * sx.rest.length + (if sx.err = 0 then 1 else 0) < _
            by_cases he : sx.err = 0
            · rw [if_pos he]; have := hpr.2 he; omega
            · rw [if_neg he]; have := hpr.1; omega
          clear hil hif HI6 HS6 HA6 hlf6 hok6 HI5 HS5 HA5 e0 e1 j5 j5a k5 HAd HId HRd HMd HA2 HI2 HF2 HJ2 HFR2 HR2
          go_wp2_with fail
          go_roundw
          case rel => exact HN.out
          case measure => exact HM.out
    · rw [itemsMore_end f s' (.inl he)] at hX
      have hsr : s' = sr := by injection hX
      have hRl : l = R := by have := congrArg Prod.fst hX; simpa using this
      subst hRl hsr
      have HE := Lib.hid he
      clear hX he hlf hok hf hb hn2
      go_wp2_with fail
      go_quiet ((go_at_call 38; exact Calls.quiet_of_same (ok_no E b s' _ (HA.out.1.drewN _) HE.out)))
      have HA9 : Hid (After2 E b (W.heap.size + 1) s' w8 (wr.drewN nq)) := HA.out.drewN nq
      have HI9 : Hid (SB (W.heap.size + 1) n c k (.slice A5 l.length cap5) (wr.drewN nq)) := HI.out
      have HRS9 : Hid (RowSv w8.heap.size l vs (.slice A5 l.length cap5) (wr.drewN nq)) := HRS.out
      have HAW := Lib.hid (HA0.out.ptr HA9.out (by omega))
      have HR9 : Hid (SB W.heap.size [] civ0 0 nil (wr.drewN nq)) := HA9.out.2.blk HR0.out (by omega)
      clear HA HI HRS c0 c1 c4
      generalize wr.drewN nq = w9 at *
      obtain ⟨w99, hw99, hA99, hl99, ho99⟩ := src_end HR9.out HAW.out hbl n c k (.slice A5 l.length cap5)
      have RS99 : Hid (RowSv W.heap.size l vs (.slice A5 l.length cap5) w99) := HRS9.out.carry fun e z v n xs ho => own_base (ho99 _ _ _ _ _ _ (by omega) ho) (by omega)
      have HW99 := Lib.hid hw99; clear hw99
      have HA99 := Lib.hid hA99; clear hA99
      have HL99 := Lib.hid hl99; clear hl99 ho99
      go_wp2_with (first | (refine wpList_load_mid rfl 27 _ rfl (W.heap.size + 1) 0 rfl (srcells n c k (.slice A5 l.length cap5)) _ HI9.out.range Tryd.underlying27 rfl info_src ?_) | (refine wpList_store_mid rfl 27 _ _ rfl W.heap.size 0 (srcells n c k (.slice A5 l.length cap5)).toArray rfl rfl HR9.out.there info_src (srcells_one _ _ _ _ ⟨_, _, _, rfl⟩) ?_; rw [HW99.out]))
      exact bodyPost_ret (v := .agg (srcells n c k (.slice A5 l.length cap5)).toArray) (results_cell Tryd.results22 rfl HL99.out) rfl ⟨⟨_, rfl, vs, RS99.out⟩, HA99.out⟩
end Go.Proofs.YtfaflipphkoiiaaDoor.Pr
