/-
  What the parser's method item returns.
-/
import Derived.Test.YtfaflipphkoiiaaDoorParBody
namespace Go.Proofs.YtfaflipphkoiiaaDoor.Pr
open Go.RowKit Mem
open Lx (Tok)
set_option linter.unusedVariables false

theorem build_zero (w : World) : (Instr.build 57 #[]).run Tryd.prog w = .ok (.agg (icells flat0 nil nil nil nil).toArray) w := by kernel_rfl
theorem isKind_after (E : Env) (b : Nat) (s : St) (x : Nat) (W : World) (h : PW E b s W) :
    Calls Tryd.prog 70 #[.pointer (some ⟨b, 0, none⟩), .int .i64 (x : Int)] W fun e w' => e = .returned (.bool (isK x s)) ∧ After E b s W w' :=
  (isKind_any E b s x W h).mono fun e w' ⟨he, m, hm⟩ => ⟨he, by subst hm; exact (After.start h).drewN m⟩
theorem After.drew {E : Env} {b : Nat} {s : St} {W W1 : World} (h : After E b s W W1) : After E b s W W1.drew := h.drewN 1
/-- The parser of an item of one of some kinds. -/
def itemI (ws : List (Bytes × Nat)) : M Item := bnd (start ws) fun o => match o with | none => ret ⟨flat0, []⟩ | some kp => bnd (bodyI kp.1) fun x => ret ⟨{ x.flat with pos := kp.2 }, x.inner⟩
/-- A table holds the functions of some kinds. -/
structure Tab (ws : List (Bytes × Nat)) (es : Array MapEntry) : Prop where
  yes : ∀ x k, ws.lookup x = some k → ∃ i, Instr.findNow .string (.string ⟨x.toArray⟩) es.toList 0 = some (some (i, .func (.func (fid k)) #[] #[]))
  no : ∀ x, ws.lookup x = none → Instr.findNow .string (.string ⟨x.toArray⟩) es.toList 0 = some none
  ent : ∀ x k, ws.lookup x = some k → ∀ args W, (callFunc (fid k) args).run Tryd.prog W = .ok (.enter (fid k) args) W

set_option maxRecDepth 100000 in
set_option maxHeartbeats 2000000 in
theorem item_p1 (ws : List (Bytes × Nat)) (es : Array MapEntry) (clock : Nat) (E : Env) (b : Nat) (s : St) (W : World) (h : PW E b s W) (r : Nat) (hr : W.heap[r]? = some (.map es clock)) (hbr : b < r) (hk : isK 1 s = false) :
    Calls Tryd.prog 39 #[.pointer (some ⟨b, 0, none⟩), .map (some r)] W fun e w' => ItemEnd E b ⟨flat0, []⟩ (fail s).2 W e w' := by
  have hbl := h.2.2.1
  have HP := Lib.hid h; clear h
  have HK := Lib.hid hk; clear hk
  have HTB := Lib.hid hr; clear hr
  go_enter Tryd.func39, Tryd.ntmps39
  go_wp2_with fail
  refine (isKind_any E b s 1 _ ((After.start HP.out).alloc _).1).mono ?_
  rw [HK.out]
  rintro e w1 ⟨rfl, m1, rfl⟩
  go_wp2_with fail
  refine (fail_any E b s _ (((After.start HP.out).alloc _).drewN m1).1).mono ?_
  rintro e w2 ⟨rfl, hA2⟩
  have HR2 : Hid (IB W.heap.size flat0 nil nil nil nil w2) := hA2.2.blk (blk_drewN (blk_newn (by simp)) m1) (by omega)
  have hA : After E b (fail s).2 _ w2 := hA2
  have HA2 := Lib.hid ((((After.start HP.out).alloc _).drewN m1).trans hA); clear hA2 hA
  obtain ⟨w99, hw99, hA99, hl99, ho99⟩ := item_end HR2.out HA2.out hbl flat0 nil nil nil nil
  have HW99 := Lib.hid hw99; clear hw99
  have HA99 := Lib.hid hA99; clear hA99
  have HL99 := Lib.hid hl99; clear hl99 ho99
  go_wp2_with (first | (refine wpList_build rfl 57 _ rfl #[] ?_ _ (build_zero _) ?_; (simp)) | (refine wpList_store_mid rfl 57 _ _ rfl W.heap.size 0 (icells flat0 nil nil nil nil).toArray rfl rfl (HR2.out.there' _ _ _ _ _) (info_size _ _ _ _ _) (icells_one _ _ _ _ _ ⟨_, _, _, rfl⟩ ⟨_, _, _, rfl⟩ ⟨_, _, _, rfl⟩ ⟨_, _, _, rfl⟩) ?_; rw [HW99.out]))
  exact bodyPost_ret (v := .agg (icells flat0 nil nil nil nil).toArray) (results_cell Tryd.results39 rfl HL99.out) rfl ⟨⟨nil, nil, nil, nil, rfl, FlatOK.nil _ _ _ rfl rfl rfl, RowI.nil _ _⟩, HA99.out⟩

set_option maxRecDepth 100000 in
set_option maxHeartbeats 4000000 in
theorem item_p2 (ws : List (Bytes × Nat)) (es : Array MapEntry) (clock : Nat) (E : Env) (b : Nat) (s : St) (W : World) (h : PW E b s W) (r : Nat) (hr : W.heap[r]? = some (.map es clock)) (hbr : b < r) (hk : isK 1 s = true) (t : Tok) (rs : List Tok) (hrs : s.rest = t :: rs) (hno : Instr.findNow .string (.string ⟨t.text.toArray⟩) es.toList 0 = some none) :
    Calls Tryd.prog 39 #[.pointer (some ⟨b, 0, none⟩), .map (some r)] W fun e w' => ItemEnd E b ⟨flat0, []⟩ (fail s).2 W e w' := by
  have hbl := h.2.2.1
  have hrl := lt_of_blk hr
  have HP := Lib.hid h; clear h
  have HK := Lib.hid hk; clear hk
  have HTB := Lib.hid hr; clear hr
  have HRS := Lib.hid hrs; clear hrs
  have HNO := Lib.hid hno; clear hno
  go_enter Tryd.func39, Tryd.ntmps39
  go_wp2_with fail
  refine (isKind_after E b s 1 _ ((After.start HP.out).alloc _).1).mono ?_
  rw [HK.out]
  rintro e V1 ⟨rfl, hA⟩
  have HR1 : Hid (IB W.heap.size flat0 nil nil nil nil V1) := hA.2.blk (blk_newn (by simp)) (by omega)
  have HT1 : Hid (V1.heap[r]? = some (.map es clock)) := hA.2.blk (blk_alloc HTB.out _) (by omega)
  have HA1 := Lib.hid (((After.start HP.out).alloc _).trans hA); clear hA HTB
  obtain ⟨_, _, hbV, hpt, n, hn1, hn2, hblk⟩ := HA1.out.1
  have hd : t :: rs = E.ts.drop n := by rw [← HRS.out]; exact hn2
  obtain ⟨hn, hti, hr2⟩ := drop_cons hd
  obtain ⟨g, o, hgA, hg, hc⟩ := hpt.2 (by omega)
  obtain ⟨q0, q1, q2, q3⟩ := hc n hn
  rw [hti] at q0 q1 q2 q3
  have c0 : V1.cell? ⟨b, 0, none⟩ = some (.slice (some ⟨g, o, none⟩) E.ts.length E.cap) := by rw [← hgA]; exact cell_of_blk hblk 0
  have c1 : V1.cell? ⟨b, 1, none⟩ = some (.int .i64 (n : Int)) := cell_of_blk hblk 1
  have hl := HA1.out.1.1
  have hgb := lt_of_blk hblk
  have HBK := Lib.hid hblk
  have HCA : Hid (∀ ob k i, k < V1.heap.size → (V1.alloc ob).cell? ⟨k, i, none⟩ = V1.cell? ⟨k, i, none⟩) := fun ob k i hk => World.cell?_alloc_lt V1 ob ⟨k, i, none⟩ hk
  have HDR := Lib.hid hr2
  clear hd hn2 hti hr2 hc hgA hpt hblk
  have HN1 : Hid (b < V1.heap.size ∧ g < V1.heap.size) := ⟨hbV, by omega⟩
  have i1 : (0 : Int) ≤ (n : Int) := Int.natCast_nonneg _
  have i2 : (n : Int) < (E.ts.length : Int) := by omega
  go_wp2_with fail
  go_region_held3 (fun w' => w'.cell? ⟨b, 0, none⟩ = some (.slice (some ⟨g, o, none⟩) E.ts.length E.cap) ∧ w'.cell? ⟨b, 1, none⟩ = some (.int .i64 (n : Int)) ∧ w'.cell? ⟨g, o + n * 4, none⟩ = some (.int .i64 (t.kind : Int)) ∧ w'.cell? ⟨g, o + n * 4 + 1, none⟩ = some (.string ⟨t.text.toArray⟩) ∧ w'.cell? ⟨g, o + n * 4 + 2, none⟩ = some (.int .i64 (t.n : Int)) ∧ w'.cell? ⟨g, o + n * 4 + 3, none⟩ = some (.int .i64 (t.pos : Int)))
    (first | exact ⟨c0, c1, q0, q1, q2, q3⟩ | exact ⟨(HCA.out _ _ _ HN1.out.1).trans c0, (HCA.out _ _ _ HN1.out.1).trans c1, (HCA.out _ _ _ HN1.out.2).trans q0, (HCA.out _ _ _ HN1.out.2).trans q1, (HCA.out _ _ _ HN1.out.2).trans q2, (HCA.out _ _ _ HN1.out.2).trans q3⟩) (fail)
  have hT2 : (V1.alloc (.cells #[.int .i64 (t.kind : Int), .string ⟨t.text.toArray⟩, .int .i64 (t.n : Int), .int .i64 (t.pos : Int)] 40)).drew.heap[r]? = some (.map es clock) := blk_alloc HT1.out _
  have hlk := run_look_no hT2 HNO.out
  have HT2 := Lib.hid hT2; clear hT2
  have HR3 : Hid (IB W.heap.size flat0 nil nil nil nil (V1.alloc (.cells #[.int .i64 (t.kind : Int), .string ⟨t.text.toArray⟩, .int .i64 (t.n : Int), .int .i64 (t.pos : Int)] 40)).drew) := blk_alloc HR1.out _
  clear c0 c1 q0 q1 q2 q3
  go_wp2_with fail
  refine (fail_any E b s _ (HA1.out.alloc _).drew.1).mono ?_
  rintro e w2 ⟨rfl, hA2⟩
  have HR2 : Hid (IB W.heap.size flat0 nil nil nil nil w2) := hA2.2.blk HR3.out (by omega)
  have hA : After E b (fail s).2 _ w2 := hA2
  have HA2 := Lib.hid ((HA1.out.alloc _).drew.trans hA); clear hA2 hA
  obtain ⟨w99, hw99, hA99, hl99, ho99⟩ := item_end HR2.out HA2.out hbl flat0 nil nil nil nil
  have HW99 := Lib.hid hw99; clear hw99
  have HA99 := Lib.hid hA99; clear hA99
  have HL99 := Lib.hid hl99; clear hl99 ho99 hlk
  go_wp2_with (first | (refine wpList_build rfl 57 _ rfl #[] ?_ _ (build_zero _) ?_; (simp)) | (refine wpList_store_mid rfl 57 _ _ rfl W.heap.size 0 (icells flat0 nil nil nil nil).toArray rfl rfl (HR2.out.there' _ _ _ _ _) (info_size _ _ _ _ _) (icells_one _ _ _ _ _ ⟨_, _, _, rfl⟩ ⟨_, _, _, rfl⟩ ⟨_, _, _, rfl⟩ ⟨_, _, _, rfl⟩) ?_; rw [HW99.out]))
  exact bodyPost_ret (v := .agg (icells flat0 nil nil nil nil).toArray) (results_cell Tryd.results39 rfl HL99.out) rfl ⟨⟨nil, nil, nil, nil, rfl, FlatOK.nil _ _ _ rfl rfl rfl, RowI.nil _ _⟩, HA99.out⟩
theorem set_begin {E : Env} {b n : Nat} {s : St} {W : World} {rs : List Tok} (h : W.heap[b]? = some (.cells (pcells E n s) 67 (0, 0))) (he : s.err = 0) :
    ((W.setCell ⟨b, 3, none⟩ (.int .i64 ((s.items : Int) + 1))).setCell ⟨b, 1, none⟩ (.int .i64 ((n : Int) + 1))).heap[b]? = some (.cells (pcells E (n + 1) ⟨rs, s.items + 1, 0⟩) 67 (0, 0)) := by
  have := blk_set (blk_set h 3 (.int .i64 ((s.items : Int) + 1))) 1 (.int .i64 ((n : Int) + 1))
  have e : atOf E.size s = 0 := by simp [atOf, he]
  have e2 : atOf E.size ⟨rs, s.items + 1, 0⟩ = 0 := by simp [atOf]
  unfold pcells at this ⊢
  rw [e, he] at this
  rw [e2]
  exact this
theorem FlatOK.carry {base base' : Nat} {f : Flat} {sc sd sn : Value} {W W' : World} (h : FlatOK base f sc sd sn W) (hc : ∀ e z v n xs, W.ownsRow base e z v n xs → W'.ownsRow base' e z v n xs) : FlatOK base' f sc sd sn W' := ⟨hc _ _ _ _ _ h.1, hc _ _ _ _ _ h.2.1, hc _ _ _ _ _ h.2.2⟩
theorem RowI.carry {base base' : Nat} {l : List Flat} {si : Value} {W W' : World} (h : RowI base l si W) (hc : ∀ e z v n xs, W.ownsRow base e z v n xs → W'.ownsRow base' e z v n xs) : RowI base' l si W' := by
  obtain ⟨h0, vs, h1, h2, h3⟩ := h
  exact ⟨h0, vs, h1, hc _ _ _ _ _ h2, fun p hp => (h3 p hp).carry hc⟩
theorem FlatOK.forms {base : Nat} {f : Flat} {sc sd sn : Value} {W : World} (h : FlatOK base f sc sd sn W) : (∃ A n c, sc = .slice A n c) ∧ (∃ A n c, sd = .slice A n c) ∧ ∃ A n c, sn = .slice A n c := by
  obtain ⟨h1, h2, h3⟩ := h
  obtain ⟨a1, c1, e1⟩ := own_form h1
  obtain ⟨a2, c2, e2⟩ := own_form h2
  obtain ⟨a3, c3, e3⟩ := own_form h3
  exact ⟨⟨a1, _, c1, e1⟩, ⟨a2, _, c2, e2⟩, ⟨a3, _, c3, e3⟩⟩
theorem RowI.form {base : Nat} {l : List Flat} {si : Value} {W : World} (h : RowI base l si W) : ∃ A n c, si = .slice A n c := by
  obtain ⟨_, vs, _, h2, _⟩ := h
  obtain ⟨a, c, e⟩ := own_form h2
  exact ⟨a, _, c, e⟩

set_option maxRecDepth 100000 in
set_option maxHeartbeats 4000000 in
theorem item_p4 (ws : List (Bytes × Nat)) (es : Array MapEntry) (clock : Nat) (E : Env) (b : Nat) (s : St) (W : World) (h : PW E b s W) (r : Nat) (hr : W.heap[r]? = some (.map es clock)) (hbr : b < r) (hk : isK 1 s = true) (t : Tok) (rs : List Tok) (hrs : s.rest = t :: rs) (k i : Nat) (hyes : Instr.findNow .string (.string ⟨t.text.toArray⟩) es.toList 0 = some (some (i, .func (.func (fid k)) #[] #[]))) (hit : s.items ≠ 600) (hent : ∀ args W, (callFunc (fid k) args).run Tryd.prog W = .ok (.enter (fid k) args) W)
    (hbody : ∀ s W, PW E b s W → Calls Tryd.prog (fid k) #[.pointer (some ⟨b, 0, none⟩)] W fun e w' => ItemEnd E b (bodyI k s).1 (bodyI k s).2 W e w') :
    Calls Tryd.prog 39 #[.pointer (some ⟨b, 0, none⟩), .map (some r)] W fun e w' => ItemEnd E b ⟨{ (bodyI k ⟨rs, s.items + 1, 0⟩).1.flat with pos := t.pos }, (bodyI k ⟨rs, s.items + 1, 0⟩).1.inner⟩ (bodyI k ⟨rs, s.items + 1, 0⟩).2 W e w' := by
  have hbl := h.2.2.1
  obtain ⟨X, sx, hX⟩ : ∃ X sx, bodyI k ⟨rs, s.items + 1, 0⟩ = (X, sx) := ⟨_, _, rfl⟩
  rw [hX]
  have HX := Lib.hid hX; clear hX
  have hrl := lt_of_blk hr
  have HP := Lib.hid h; clear h
  have HK := Lib.hid hk; clear hk
  have HTB := Lib.hid hr; clear hr
  have HRS := Lib.hid hrs; clear hrs
  have HYES := Lib.hid hyes; clear hyes
  have HENT := Lib.hid hent; clear hent
  have HBODY := Lib.hid hbody; clear hbody
  go_enter Tryd.func39, Tryd.ntmps39
  go_wp2_with fail
  refine (isKind_after E b s 1 _ ((After.start HP.out).alloc _).1).mono ?_
  rw [HK.out]
  rintro e V1 ⟨rfl, hA⟩
  have HR1 : Hid (IB W.heap.size flat0 nil nil nil nil V1) := hA.2.blk (blk_newn (by simp)) (by omega)
  have HT1 : Hid (V1.heap[r]? = some (.map es clock)) := hA.2.blk (blk_alloc HTB.out _) (by omega)
  have HA1 := Lib.hid (((After.start HP.out).alloc _).trans hA); clear hA HTB
  obtain ⟨_, _, hbV, hpt, n, hn1, hn2, hblk⟩ := HA1.out.1
  have hd : t :: rs = E.ts.drop n := by rw [← HRS.out]; exact hn2
  obtain ⟨hn, hti, hr2⟩ := drop_cons hd
  obtain ⟨g, o, hgA, hg, hc⟩ := hpt.2 (by omega)
  obtain ⟨q0, q1, q2, q3⟩ := hc n hn
  rw [hti] at q0 q1 q2 q3
  have c0 : V1.cell? ⟨b, 0, none⟩ = some (.slice (some ⟨g, o, none⟩) E.ts.length E.cap) := by rw [← hgA]; exact cell_of_blk hblk 0
  have c1 : V1.cell? ⟨b, 1, none⟩ = some (.int .i64 (n : Int)) := cell_of_blk hblk 1
  have hl := HA1.out.1.1
  have hgb := lt_of_blk hblk
  have HBK := Lib.hid hblk
  have HCA : Hid (∀ ob k i, k < V1.heap.size → (V1.alloc ob).cell? ⟨k, i, none⟩ = V1.cell? ⟨k, i, none⟩) := fun ob k i hk => World.cell?_alloc_lt V1 ob ⟨k, i, none⟩ hk
  have HDR := Lib.hid hr2
  clear hd hn2 hti hr2 hc hgA hpt hblk
  have HN1 : Hid (b < V1.heap.size ∧ g < V1.heap.size) := ⟨hbV, by omega⟩
  have i1 : (0 : Int) ≤ (n : Int) := Int.natCast_nonneg _
  have i2 : (n : Int) < (E.ts.length : Int) := by omega
  go_wp2_with fail
  go_region_held3 (fun w' => w'.cell? ⟨b, 0, none⟩ = some (.slice (some ⟨g, o, none⟩) E.ts.length E.cap) ∧ w'.cell? ⟨b, 1, none⟩ = some (.int .i64 (n : Int)) ∧ w'.cell? ⟨g, o + n * 4, none⟩ = some (.int .i64 (t.kind : Int)) ∧ w'.cell? ⟨g, o + n * 4 + 1, none⟩ = some (.string ⟨t.text.toArray⟩) ∧ w'.cell? ⟨g, o + n * 4 + 2, none⟩ = some (.int .i64 (t.n : Int)) ∧ w'.cell? ⟨g, o + n * 4 + 3, none⟩ = some (.int .i64 (t.pos : Int)))
    (first | exact ⟨c0, c1, q0, q1, q2, q3⟩ | exact ⟨(HCA.out _ _ _ HN1.out.1).trans c0, (HCA.out _ _ _ HN1.out.1).trans c1, (HCA.out _ _ _ HN1.out.2).trans q0, (HCA.out _ _ _ HN1.out.2).trans q1, (HCA.out _ _ _ HN1.out.2).trans q2, (HCA.out _ _ _ HN1.out.2).trans q3⟩) (fail)
  have hT2 : (V1.alloc (.cells #[.int .i64 (t.kind : Int), .string ⟨t.text.toArray⟩, .int .i64 (t.n : Int), .int .i64 (t.pos : Int)] 40)).drew.heap[r]? = some (.map es clock) := blk_alloc HT1.out _
  have hlk := run_look hT2 HYES.out
  have HR3 : Hid (IB W.heap.size flat0 nil nil nil nil (V1.alloc (.cells #[.int .i64 (t.kind : Int), .string ⟨t.text.toArray⟩, .int .i64 (t.n : Int), .int .i64 (t.pos : Int)] 40)).drew) := blk_alloc HR1.out _
  have HB3 : Hid ((V1.alloc (.cells #[.int .i64 (t.kind : Int), .string ⟨t.text.toArray⟩, .int .i64 (t.n : Int), .int .i64 (t.pos : Int)] 40)).drew.heap[b]? = some (.cells (pcells E n s) 67 (0, 0))) := blk_alloc HBK.out _
  have HK3 : Hid ((V1.alloc (.cells #[.int .i64 (t.kind : Int), .string ⟨t.text.toArray⟩, .int .i64 (t.n : Int), .int .i64 (t.pos : Int)] 40)).drew.heap[V1.heap.size]? = some (.cells #[.int .i64 (t.kind : Int), .string ⟨t.text.toArray⟩, .int .i64 (t.n : Int), .int .i64 (t.pos : Int)] 40 (0, 0))) := blk_newn (w := V1) rfl
  have HA3 := Lib.hid ((HA1.out.alloc (.cells #[.int .i64 (t.kind : Int), .string ⟨t.text.toArray⟩, .int .i64 (t.n : Int), .int .i64 (t.pos : Int)] 40)).drew)
  clear c0 c1 q0 q1 q2 q3 hT2 HT1
  generalize (V1.alloc (.cells #[.int .i64 (t.kind : Int), .string ⟨t.text.toArray⟩, .int .i64 (t.n : Int), .int .i64 (t.pos : Int)] 40)).drew = V2 at *
  have c1 : V2.cell? ⟨b, 1, none⟩ = some (.int .i64 (n : Int)) := cell_of_blk HB3.out 1
  have c3 : V2.cell? ⟨b, 3, none⟩ = some (.int .i64 (s.items : Int)) := cell_of_blk HB3.out 3
  have f1 : V2.frozen? ⟨b, 1, none⟩ = false := froz_of_blk HB3.out 1
  have f3 : V2.frozen? ⟨b, 3, none⟩ = false := froz_of_blk HB3.out 3
  have t1 : V2.cell? ⟨V1.heap.size, 1, none⟩ = some (.string ⟨t.text.toArray⟩) := cell_of_blk HK3.out 1
  have h600 : ((s.items : Int) == 600) = false := beq_eq_false_iff_ne.2 (by omega)
  have hi6 := HA3.out.1.2.1
  go_wp2_with fail
  rw [HENT.out, Oper.upon_enter]
  have hfr : Fr (fun k => k = b) V2 ((V2.setCell ⟨b, 3, none⟩ (.int .i64 ((s.items : Int) + 1))).setCell ⟨b, 1, none⟩ (.int .i64 ((n : Int) + 1))) := ((Fr.refl _ _).setb 3 _).setb 1 _
  have hpw : PW E b ⟨rs, s.items + 1, 0⟩ ((V2.setCell ⟨b, 3, none⟩ (.int .i64 ((s.items : Int) + 1))).setCell ⟨b, 1, none⟩ (.int .i64 ((n : Int) + 1))) := mod_PW HA3.out.1 hfr (by show s.items + 1 ≤ 600; omega) (by omega) HDR.out (set_begin HB3.out (isK_err HK.out).1)
  have HA4 : Hid (After E b ⟨rs, s.items + 1, 0⟩ W ((V2.setCell ⟨b, 3, none⟩ (.int .i64 ((s.items : Int) + 1))).setCell ⟨b, 1, none⟩ (.int .i64 ((n : Int) + 1)))) := ⟨hpw, HA3.out.2.trans hfr⟩
  have HR4 := Lib.hid (hfr.blk HR3.out (by omega))
  have HS2 := Lib.hid (lt_of_blk HR4.out)
  have HK4 := Lib.hid (hfr.blk HK3.out (by omega))
  refine (HBODY.out _ _ hpw).mono ?_
  rw [HX.out]
  clear hfr hpw c1 c3 f1 f3 t1 hlk
  intro e w3 hE
  obtain ⟨⟨sc, sd, sn, si, rfl, hF, hRI⟩, hA⟩ := hE
  dsimp only at hF hRI hA ⊢
  have HR5 : Hid (IB W.heap.size flat0 nil nil nil nil w3) := hA.2.blk HR4.out (by omega)
  have hK5 := hA.2.blk HK4.out (by omega)
  have HA5 := Lib.hid (HA4.out.trans hA)
  have HSZ := Lib.hid hA.2.size
  have t3 : w3.cell? ⟨V1.heap.size, 3, none⟩ = some (.int .i64 (t.pos : Int)) := cell_of_blk hK5 3
  have t3a : ∀ ob, (w3.alloc ob).cell? ⟨V1.heap.size, 3, none⟩ = some (.int .i64 (t.pos : Int)) := fun ob => cell_of_blk (blk_alloc hK5 ob) 3
  have HG := Lib.hid hF.forms
  have HG4 := Lib.hid hRI.form
  have HF := Lib.hid hF; have HRI := Lib.hid hRI
  have hs3 := lt_of_blk HR5.out
  have hv13 := lt_of_blk hK5
  clear hF hRI hA hK5 HA4 HR4 HK4 HR3 HB3 HK3 HA3
  have HI6 : Hid (IB w3.heap.size { X.flat with pos := t.pos } sc sd sn si (w3.alloc (.cells ((icells X.flat sc sd sn si).set 2 (.int .i64 (t.pos : Int))).toArray 57))) := blk_newn rfl
  have HR6 : Hid (IB W.heap.size flat0 nil nil nil nil (w3.alloc (.cells ((icells X.flat sc sd sn si).set 2 (.int .i64 (t.pos : Int))).toArray 57))) := blk_alloc HR5.out _
  have HA6 : Hid (After E b sx W (w3.alloc (.cells ((icells X.flat sc sd sn si).set 2 (.int .i64 (t.pos : Int))).toArray 57))) := HA5.out.alloc _
  obtain ⟨w99, hw99, hA99, hl99, ho99⟩ := item_end HR6.out HA6.out hbl { X.flat with pos := t.pos } sc sd sn si
  have HB6 := Lib.hid (lt_of_blk HR1.out)
  have HCAR : Hid (∀ (e : TypeId) (z : Nat) (v : Value) (n1 : Nat) (xs : List Value), w3.ownsRow ((V2.setCell ⟨b, 3, none⟩ (.int .i64 ((s.items : Int) + 1))).setCell ⟨b, 1, none⟩ (.int .i64 ((n : Int) + 1))).heap.size e z v n1 xs → w99.ownsRow W.heap.size e z v n1 xs) := by
    intro e z v n' xs ho
    have hsz2 : W.heap.size < ((V2.setCell ⟨b, 3, none⟩ (.int .i64 ((s.items : Int) + 1))).setCell ⟨b, 1, none⟩ (.int .i64 ((n : Int) + 1))).heap.size := HS2.out
    exact own_base (ho99 _ _ _ _ _ _ hsz2 (own_fr ho ((Fr.refl (fun _ => False) _).alloc _) (fun _ _ _ h => h))) (by omega)
  have HF9 := Lib.hid (HF.out.carry HCAR.out)
  have HRI9 := Lib.hid (HRI.out.carry HCAR.out)
  have HW99 := Lib.hid hw99; clear hw99
  have HA99 := Lib.hid hA99; clear hA99
  have HL99 := Lib.hid hl99; clear hl99 ho99
  go_wp2_with (first | (refine wpList_store_new rfl 57 _ _ rfl rfl (icells X.flat sc sd sn si).toArray rfl (info_size _ _ _ _ _) (icells_one _ _ _ _ _ HG.out.1 HG.out.2.1 HG.out.2.2 HG4.out) (by rfl) ?_) | (refine wpList_load_mid rfl 57 _ rfl w3.heap.size 0 rfl (icells { X.flat with pos := t.pos } sc sd sn si) _ HI6.out.range Tryd.underlying57 rfl (info_len _ _ _ _ _) ?_) | (refine wpList_store_mid rfl 57 _ _ rfl W.heap.size 0 (icells { X.flat with pos := t.pos } sc sd sn si).toArray rfl rfl (HR6.out.there' _ _ _ _ _) (info_size _ _ _ _ _) (icells_one _ _ _ _ _ HG.out.1 HG.out.2.1 HG.out.2.2 HG4.out) ?_; rw [HW99.out]))
  exact bodyPost_ret (v := .agg (icells { X.flat with pos := t.pos } sc sd sn si).toArray) (results_cell Tryd.results39 rfl HL99.out) rfl ⟨⟨sc, sd, sn, si, rfl, HF9.out, HRI9.out⟩, HA99.out⟩

end Go.Proofs.YtfaflipphkoiiaaDoor.Pr
