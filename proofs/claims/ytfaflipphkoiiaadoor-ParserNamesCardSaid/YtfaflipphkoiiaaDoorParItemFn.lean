/-
  What the parser's method item returns. What the parser's method item returns: too many items, and all cases together. The tables of kinds hold the parsers' functions; items inside and outside of templates. Rows of items in memory: how they grow.
-/
import Derived.Test.YtfaflipphkoiiaaDoorParBody
import Derived.Test.YtfaflipphkoiiaaDoorParMono
namespace Go.Proofs.YtfaflipphkoiiaaDoor.Pr
open Go.RowKit Mem
open Lx (Tok)
set_option linter.unusedVariables false

theorem build_zero (w : World) : (Instr.build 57 #[]).run Tryd.prog w = .ok (.agg (icells flat0 nil nil nil nil).toArray) w := by kernel_rfl
theorem isKind_after (E : Env) (b : Nat) (s : St) (x : Nat) (W : World) (h : PW E b s W) :
    Calls Tryd.prog 70 #[.pointer (some ⟨b, 0, none⟩), .int .i64 (x : Int)] W fun e w' => e = .returned (.bool (isK x s)) ∧ After E b s W w' :=
  (isKind_any E b s x W h).mono fun e w' ⟨he, m, hm⟩ => ⟨he, by subst hm; exact (After.start h).drewN m⟩
theorem After.drew {E : Env} {b : Nat} {s : St} {W W1 : World} (h : After E b s W W1) : After E b s W W1.drew := h.drewN 1
/-- The parser of an item of one of some kinds. -/
def itemI (ws : List (Bytes × Nat)) : M Item := bnd (start ws) fun o => match o with | none => ret ⟨flat0, []⟩ | some kp => bnd (bodyI kp.1) fun x => ret ⟨{ x.flat with pos := kp.2 }, x.inner⟩
/-- A table holds the functions of some kinds. -/
structure Tab (ws : List (Bytes × Nat)) (es : Array MapEntry) : Prop where
  yes : ∀ x k, ws.lookup x = some k → ∃ i, Instr.findNow .string (.string ⟨x.toArray⟩) es.toList 0 = some (some (i, .func (.func (fid k)) #[] #[]))
  no : ∀ x, ws.lookup x = none → Instr.findNow .string (.string ⟨x.toArray⟩) es.toList 0 = some none
  ent : ∀ x k, ws.lookup x = some k → ∀ args W, (callFunc (fid k) args).run Tryd.prog W = .ok (.enter (fid k) args) W

set_option maxRecDepth 100000 in
set_option maxHeartbeats 2000000 in
theorem item_p1 (ws : List (Bytes × Nat)) (es : Array MapEntry) (clock : Nat) (E : Env) (b : Nat) (s : St) (W : World) (h : PW E b s W) (r : Nat) (hr : W.heap[r]? = some (.map es clock)) (hbr : b < r) (hk : isK 1 s = false) :
    Calls Tryd.prog 39 #[.pointer (some ⟨b, 0, none⟩), .map (some r)] W fun e w' => ItemEnd E b ⟨flat0, []⟩ (fail s).2 W e w' := by
  have hbl := h.2.2.1
  have HP := Lib.hid h; clear h
  have HK := Lib.hid hk; clear hk
  have HTB := Lib.hid hr; clear hr
  go_enter Tryd.func39, Tryd.ntmps39
  go_wp2_with fail
  refine (isKind_any E b s 1 _ ((After.start HP.out).alloc _).1).mono ?_
  rw [HK.out]
  rintro e w1 ⟨rfl, m1, rfl⟩
  go_wp2_with fail
  refine (fail_any E b s _ (((After.start HP.out).alloc _).drewN m1).1).mono ?_
  rintro e w2 ⟨rfl, hA2⟩
  have HR2 : Hid (IB W.heap.size flat0 nil nil nil nil w2) := hA2.2.blk (blk_drewN (blk_newn (by simp)) m1) (by omega)
  have hA : After E b (fail s).2 _ w2 := hA2
  have HA2 := Lib.hid ((((After.start HP.out).alloc _).drewN m1).trans hA); clear hA2 hA
  obtain ⟨w99, hw99, hA99, hl99, ho99⟩ := item_end HR2.out HA2.out hbl flat0 nil nil nil nil
  have HW99 := Lib.hid hw99; clear hw99
  have HA99 := Lib.hid hA99; clear hA99
  have HL99 := Lib.hid hl99; clear hl99 ho99
  go_wp2_with (first | (refine wpList_build rfl 57 _ rfl #[] ?_ _ (build_zero _) ?_; (simp)) | (refine wpList_store_mid rfl 57 _ _ rfl W.heap.size 0 (icells flat0 nil nil nil nil).toArray rfl rfl (HR2.out.there' _ _ _ _ _) (info_size _ _ _ _ _) (icells_one _ _ _ _ _ ⟨_, _, _, rfl⟩ ⟨_, _, _, rfl⟩ ⟨_, _, _, rfl⟩ ⟨_, _, _, rfl⟩) ?_; rw [HW99.out]))
  exact bodyPost_ret (v := .agg (icells flat0 nil nil nil nil).toArray) (results_cell Tryd.results39 rfl HL99.out) rfl ⟨⟨nil, nil, nil, nil, rfl, FlatOK.nil _ _ _ rfl rfl rfl, RowI.nil _ _⟩, HA99.out⟩

set_option maxRecDepth 100000 in
set_option maxHeartbeats 4000000 in
theorem item_p2 (ws : List (Bytes × Nat)) (es : Array MapEntry) (clock : Nat) (E : Env) (b : Nat) (s : St) (W : World) (h : PW E b s W) (r : Nat) (hr : W.heap[r]? = some (.map es clock)) (hbr : b < r) (hk : isK 1 s = true) (t : Tok) (rs : List Tok) (hrs : s.rest = t :: rs) (hno : Instr.findNow .string (.string ⟨t.text.toArray⟩) es.toList 0 = some none) :
    Calls Tryd.prog 39 #[.pointer (some ⟨b, 0, none⟩), .map (some r)] W fun e w' => ItemEnd E b ⟨flat0, []⟩ (fail s).2 W e w' := by
  have hbl := h.2.2.1
  have hrl := lt_of_blk hr
  have HP := Lib.hid h; clear h
  have HK := Lib.hid hk; clear hk
  have HTB := Lib.hid hr; clear hr
  have HRS := Lib.hid hrs; clear hrs
  have HNO := Lib.hid hno; clear hno
  go_enter Tryd.func39, Tryd.ntmps39
  go_wp2_with fail
  refine (isKind_after E b s 1 _ ((After.start HP.out).alloc _).1).mono ?_
  rw [HK.out]
  rintro e V1 ⟨rfl, hA⟩
  have HR1 : Hid (IB W.heap.size flat0 nil nil nil nil V1) := hA.2.blk (blk_newn (by simp)) (by omega)
  have HT1 : Hid (V1.heap[r]? = some (.map es clock)) := hA.2.blk (blk_alloc HTB.out _) (by omega)
  have HA1 := Lib.hid (((After.start HP.out).alloc _).trans hA); clear hA HTB
  obtain ⟨_, _, hbV, hpt, n, hn1, hn2, hblk⟩ := HA1.out.1
  have hd : t :: rs = E.ts.drop n := by rw [← HRS.out]; exact hn2
  obtain ⟨hn, hti, hr2⟩ := drop_cons hd
  obtain ⟨g, o, hgA, hg, hc⟩ := hpt.2 (by omega)
  obtain ⟨q0, q1, q2, q3⟩ := hc n hn
  rw [hti] at q0 q1 q2 q3
  have c0 : V1.cell? ⟨b, 0, none⟩ = some (.slice (some ⟨g, o, none⟩) E.ts.length E.cap) := by rw [← hgA]; exact cell_of_blk hblk 0
  have c1 : V1.cell? ⟨b, 1, none⟩ = some (.int .i64 (n : Int)) := cell_of_blk hblk 1
  have hl := HA1.out.1.1
  have hgb := lt_of_blk hblk
  have HBK := Lib.hid hblk
  have HCA : Hid (∀ ob k i, k < V1.heap.size → (V1.alloc ob).cell? ⟨k, i, none⟩ = V1.cell? ⟨k, i, none⟩) := fun ob k i hk => World.cell?_alloc_lt V1 ob ⟨k, i, none⟩ hk
  have HDR := Lib.hid hr2
  clear hd hn2 hti hr2 hc hgA hpt hblk
  have HN1 : Hid (b < V1.heap.size ∧ g < V1.heap.size) := ⟨hbV, by omega⟩
  have i1 : (0 : Int) ≤ (n : Int) := Int.natCast_nonneg _
  have i2 : (n : Int) < (E.ts.length : Int) := by omega
  go_wp2_with fail
  go_region_held3 (fun w' => w'.cell? ⟨b, 0, none⟩ = some (.slice (some ⟨g, o, none⟩) E.ts.length E.cap) ∧ w'.cell? ⟨b, 1, none⟩ = some (.int .i64 (n : Int)) ∧ w'.cell? ⟨g, o + n * 4, none⟩ = some (.int .i64 (t.kind : Int)) ∧ w'.cell? ⟨g, o + n * 4 + 1, none⟩ = some (.string ⟨t.text.toArray⟩) ∧ w'.cell? ⟨g, o + n * 4 + 2, none⟩ = some (.int .i64 (t.n : Int)) ∧ w'.cell? ⟨g, o + n * 4 + 3, none⟩ = some (.int .i64 (t.pos : Int)))
    (first | exact ⟨c0, c1, q0, q1, q2, q3⟩ | exact ⟨(HCA.out _ _ _ HN1.out.1).trans c0, (HCA.out _ _ _ HN1.out.1).trans c1, (HCA.out _ _ _ HN1.out.2).trans q0, (HCA.out _ _ _ HN1.out.2).trans q1, (HCA.out _ _ _ HN1.out.2).trans q2, (HCA.out _ _ _ HN1.out.2).trans q3⟩) (fail)
  have hT2 : (V1.alloc (.cells #[.int .i64 (t.kind : Int), .string ⟨t.text.toArray⟩, .int .i64 (t.n : Int), .int .i64 (t.pos : Int)] 40)).drew.heap[r]? = some (.map es clock) := blk_alloc HT1.out _
  have hlk := run_look_no hT2 HNO.out
  have HT2 := Lib.hid hT2; clear hT2
  have HR3 : Hid (IB W.heap.size flat0 nil nil nil nil (V1.alloc (.cells #[.int .i64 (t.kind : Int), .string ⟨t.text.toArray⟩, .int .i64 (t.n : Int), .int .i64 (t.pos : Int)] 40)).drew) := blk_alloc HR1.out _
  clear c0 c1 q0 q1 q2 q3
  go_wp2_with fail
  refine (fail_any E b s _ (HA1.out.alloc _).drew.1).mono ?_
  rintro e w2 ⟨rfl, hA2⟩
  have HR2 : Hid (IB W.heap.size flat0 nil nil nil nil w2) := hA2.2.blk HR3.out (by omega)
  have hA : After E b (fail s).2 _ w2 := hA2
  have HA2 := Lib.hid ((HA1.out.alloc _).drew.trans hA); clear hA2 hA
  obtain ⟨w99, hw99, hA99, hl99, ho99⟩ := item_end HR2.out HA2.out hbl flat0 nil nil nil nil
  have HW99 := Lib.hid hw99; clear hw99
  have HA99 := Lib.hid hA99; clear hA99
  have HL99 := Lib.hid hl99; clear hl99 ho99 hlk
  go_wp2_with (first | (refine wpList_build rfl 57 _ rfl #[] ?_ _ (build_zero _) ?_; (simp)) | (refine wpList_store_mid rfl 57 _ _ rfl W.heap.size 0 (icells flat0 nil nil nil nil).toArray rfl rfl (HR2.out.there' _ _ _ _ _) (info_size _ _ _ _ _) (icells_one _ _ _ _ _ ⟨_, _, _, rfl⟩ ⟨_, _, _, rfl⟩ ⟨_, _, _, rfl⟩ ⟨_, _, _, rfl⟩) ?_; rw [HW99.out]))
  exact bodyPost_ret (v := .agg (icells flat0 nil nil nil nil).toArray) (results_cell Tryd.results39 rfl HL99.out) rfl ⟨⟨nil, nil, nil, nil, rfl, FlatOK.nil _ _ _ rfl rfl rfl, RowI.nil _ _⟩, HA99.out⟩
theorem set_begin {E : Env} {b n : Nat} {s : St} {W : World} {rs : List Tok} (h : W.heap[b]? = some (.cells (pcells E n s) 67 (0, 0))) (he : s.err = 0) :
    ((W.setCell ⟨b, 3, none⟩ (.int .i64 ((s.items : Int) + 1))).setCell ⟨b, 1, none⟩ (.int .i64 ((n : Int) + 1))).heap[b]? = some (.cells (pcells E (n + 1) ⟨rs, s.items + 1, 0⟩) 67 (0, 0)) := by
  have := blk_set (blk_set h 3 (.int .i64 ((s.items : Int) + 1))) 1 (.int .i64 ((n : Int) + 1))
  have e : atOf E.size s = 0 := by simp [atOf, he]
  have e2 : atOf E.size ⟨rs, s.items + 1, 0⟩ = 0 := by simp [atOf]
  unfold pcells at this ⊢
  rw [e, he] at this
  rw [e2]
  exact this
theorem FlatOK.carry {base base' : Nat} {f : Flat} {sc sd sn : Value} {W W' : World} (h : FlatOK base f sc sd sn W) (hc : ∀ e z v n xs, W.ownsRow base e z v n xs → W'.ownsRow base' e z v n xs) : FlatOK base' f sc sd sn W' := ⟨hc _ _ _ _ _ h.1, hc _ _ _ _ _ h.2.1, hc _ _ _ _ _ h.2.2⟩
theorem RowI.carry {base base' : Nat} {l : List Flat} {si : Value} {W W' : World} (h : RowI base l si W) (hc : ∀ e z v n xs, W.ownsRow base e z v n xs → W'.ownsRow base' e z v n xs) : RowI base' l si W' := by
  obtain ⟨h0, vs, h1, h2, h3⟩ := h
  exact ⟨h0, vs, h1, hc _ _ _ _ _ h2, fun p hp => (h3 p hp).carry hc⟩
theorem FlatOK.forms {base : Nat} {f : Flat} {sc sd sn : Value} {W : World} (h : FlatOK base f sc sd sn W) : (∃ A n c, sc = .slice A n c) ∧ (∃ A n c, sd = .slice A n c) ∧ ∃ A n c, sn = .slice A n c := by
  obtain ⟨h1, h2, h3⟩ := h
  obtain ⟨a1, c1, e1⟩ := own_form h1
  obtain ⟨a2, c2, e2⟩ := own_form h2
  obtain ⟨a3, c3, e3⟩ := own_form h3
  exact ⟨⟨a1, _, c1, e1⟩, ⟨a2, _, c2, e2⟩, ⟨a3, _, c3, e3⟩⟩
theorem RowI.form {base : Nat} {l : List Flat} {si : Value} {W : World} (h : RowI base l si W) : ∃ A n c, si = .slice A n c := by
  obtain ⟨_, vs, _, h2, _⟩ := h
  obtain ⟨a, c, e⟩ := own_form h2
  exact ⟨a, _, c, e⟩

set_option maxRecDepth 100000 in
set_option maxHeartbeats 4000000 in
theorem item_p4 (ws : List (Bytes × Nat)) (es : Array MapEntry) (clock : Nat) (E : Env) (b : Nat) (s : St) (W : World) (h : PW E b s W) (r : Nat) (hr : W.heap[r]? = some (.map es clock)) (hbr : b < r) (hk : isK 1 s = true) (t : Tok) (rs : List Tok) (hrs : s.rest = t :: rs) (k i : Nat) (hyes : Instr.findNow .string (.string ⟨t.text.toArray⟩) es.toList 0 = some (some (i, .func (.func (fid k)) #[] #[]))) (hit : s.items ≠ 600) (hent : ∀ args W, (callFunc (fid k) args).run Tryd.prog W = .ok (.enter (fid k) args) W)
    (hbody : ∀ s W, PW E b s W → Calls Tryd.prog (fid k) #[.pointer (some ⟨b, 0, none⟩)] W fun e w' => ItemEnd E b (bodyI k s).1 (bodyI k s).2 W e w') :
    Calls Tryd.prog 39 #[.pointer (some ⟨b, 0, none⟩), .map (some r)] W fun e w' => ItemEnd E b ⟨{ (bodyI k ⟨rs, s.items + 1, 0⟩).1.flat with pos := t.pos }, (bodyI k ⟨rs, s.items + 1, 0⟩).1.inner⟩ (bodyI k ⟨rs, s.items + 1, 0⟩).2 W e w' := by
  have hbl := h.2.2.1
  obtain ⟨X, sx, hX⟩ : ∃ X sx, bodyI k ⟨rs, s.items + 1, 0⟩ = (X, sx) := ⟨_, _, rfl⟩
  rw [hX]
  have HX := Lib.hid hX; clear hX
  have hrl := lt_of_blk hr
  have HP := Lib.hid h; clear h
  have HK := Lib.hid hk; clear hk
  have HTB := Lib.hid hr; clear hr
  have HRS := Lib.hid hrs; clear hrs
  have HYES := Lib.hid hyes; clear hyes
  have HENT := Lib.hid hent; clear hent
  have HBODY := Lib.hid hbody; clear hbody
  go_enter Tryd.func39, Tryd.ntmps39
  go_wp2_with fail
  refine (isKind_after E b s 1 _ ((After.start HP.out).alloc _).1).mono ?_
  rw [HK.out]
  rintro e V1 ⟨rfl, hA⟩
  have HR1 : Hid (IB W.heap.size flat0 nil nil nil nil V1) := hA.2.blk (blk_newn (by simp)) (by omega)
  have HT1 : Hid (V1.heap[r]? = some (.map es clock)) := hA.2.blk (blk_alloc HTB.out _) (by omega)
  have HA1 := Lib.hid (((After.start HP.out).alloc _).trans hA); clear hA HTB
  obtain ⟨_, _, hbV, hpt, n, hn1, hn2, hblk⟩ := HA1.out.1
  have hd : t :: rs = E.ts.drop n := by rw [← HRS.out]; exact hn2
  obtain ⟨hn, hti, hr2⟩ := drop_cons hd
  obtain ⟨g, o, hgA, hg, hc⟩ := hpt.2 (by omega)
  obtain ⟨q0, q1, q2, q3⟩ := hc n hn
  rw [hti] at q0 q1 q2 q3
  have c0 : V1.cell? ⟨b, 0, none⟩ = some (.slice (some ⟨g, o, none⟩) E.ts.length E.cap) := by rw [← hgA]; exact cell_of_blk hblk 0
  have c1 : V1.cell? ⟨b, 1, none⟩ = some (.int .i64 (n : Int)) := cell_of_blk hblk 1
  have hl := HA1.out.1.1
  have hgb := lt_of_blk hblk
  have HBK := Lib.hid hblk
  have HCA : Hid (∀ ob k i, k < V1.heap.size → (V1.alloc ob).cell? ⟨k, i, none⟩ = V1.cell? ⟨k, i, none⟩) := fun ob k i hk => World.cell?_alloc_lt V1 ob ⟨k, i, none⟩ hk
  have HDR := Lib.hid hr2
  clear hd hn2 hti hr2 hc hgA hpt hblk
  have HN1 : Hid (b < V1.heap.size ∧ g < V1.heap.size) := ⟨hbV, by omega⟩
  have i1 : (0 : Int) ≤ (n : Int) := Int.natCast_nonneg _
  have i2 : (n : Int) < (E.ts.length : Int) := by omega
  go_wp2_with fail
  go_region_held3 (fun w' => w'.cell? ⟨b, 0, none⟩ = some (.slice (some ⟨g, o, none⟩) E.ts.length E.cap) ∧ w'.cell? ⟨b, 1, none⟩ = some (.int .i64 (n : Int)) ∧ w'.cell? ⟨g, o + n * 4, none⟩ = some (.int .i64 (t.kind : Int)) ∧ w'.cell? ⟨g, o + n * 4 + 1, none⟩ = some (.string ⟨t.text.toArray⟩) ∧ w'.cell? ⟨g, o + n * 4 + 2, none⟩ = some (.int .i64 (t.n : Int)) ∧ w'.cell? ⟨g, o + n * 4 + 3, none⟩ = some (.int .i64 (t.pos : Int)))
    (first | exact ⟨c0, c1, q0, q1, q2, q3⟩ | exact ⟨(HCA.out _ _ _ HN1.out.1).trans c0, (HCA.out _ _ _ HN1.out.1).trans c1, (HCA.out _ _ _ HN1.out.2).trans q0, (HCA.out _ _ _ HN1.out.2).trans q1, (HCA.out _ _ _ HN1.out.2).trans q2, (HCA.out _ _ _ HN1.out.2).trans q3⟩) (fail)
  have hT2 : (V1.alloc (.cells #[.int .i64 (t.kind : Int), .string ⟨t.text.toArray⟩, .int .i64 (t.n : Int), .int .i64 (t.pos : Int)] 40)).drew.heap[r]? = some (.map es clock) := blk_alloc HT1.out _
  have hlk := run_look hT2 HYES.out
  have HR3 : Hid (IB W.heap.size flat0 nil nil nil nil (V1.alloc (.cells #[.int .i64 (t.kind : Int), .string ⟨t.text.toArray⟩, .int .i64 (t.n : Int), .int .i64 (t.pos : Int)] 40)).drew) := blk_alloc HR1.out _
  have HB3 : Hid ((V1.alloc (.cells #[.int .i64 (t.kind : Int), .string ⟨t.text.toArray⟩, .int .i64 (t.n : Int), .int .i64 (t.pos : Int)] 40)).drew.heap[b]? = some (.cells (pcells E n s) 67 (0, 0))) := blk_alloc HBK.out _
  have HK3 : Hid ((V1.alloc (.cells #[.int .i64 (t.kind : Int), .string ⟨t.text.toArray⟩, .int .i64 (t.n : Int), .int .i64 (t.pos : Int)] 40)).drew.heap[V1.heap.size]? = some (.cells #[.int .i64 (t.kind : Int), .string ⟨t.text.toArray⟩, .int .i64 (t.n : Int), .int .i64 (t.pos : Int)] 40 (0, 0))) := blk_newn (w := V1) rfl
  have HA3 := Lib.hid ((HA1.out.alloc (.cells #[.int .i64 (t.kind : Int), .string ⟨t.text.toArray⟩, .int .i64 (t.n : Int), .int .i64 (t.pos : Int)] 40)).drew)
  clear c0 c1 q0 q1 q2 q3 hT2 HT1
  generalize (V1.alloc (.cells #[.int .i64 (t.kind : Int), .string ⟨t.text.toArray⟩, .int .i64 (t.n : Int), .int .i64 (t.pos : Int)] 40)).drew = V2 at *
  have c1 : V2.cell? ⟨b, 1, none⟩ = some (.int .i64 (n : Int)) := cell_of_blk HB3.out 1
  have c3 : V2.cell? ⟨b, 3, none⟩ = some (.int .i64 (s.items : Int)) := cell_of_blk HB3.out 3
  have f1 : V2.frozen? ⟨b, 1, none⟩ = false := froz_of_blk HB3.out 1
  have f3 : V2.frozen? ⟨b, 3, none⟩ = false := froz_of_blk HB3.out 3
  have t1 : V2.cell? ⟨V1.heap.size, 1, none⟩ = some (.string ⟨t.text.toArray⟩) := cell_of_blk HK3.out 1
  have h600 : ((s.items : Int) == 600) = false := beq_eq_false_iff_ne.2 (by omega)
  have hi6 := HA3.out.1.2.1
  go_wp2_with fail
  rw [HENT.out, Oper.upon_enter]
  have hfr : Fr (fun k => k = b) V2 ((V2.setCell ⟨b, 3, none⟩ (.int .i64 ((s.items : Int) + 1))).setCell ⟨b, 1, none⟩ (.int .i64 ((n : Int) + 1))) := ((Fr.refl _ _).setb 3 _).setb 1 _
  have hpw : PW E b ⟨rs, s.items + 1, 0⟩ ((V2.setCell ⟨b, 3, none⟩ (.int .i64 ((s.items : Int) + 1))).setCell ⟨b, 1, none⟩ (.int .i64 ((n : Int) + 1))) := mod_PW HA3.out.1 hfr (by show s.items + 1 ≤ 600; omega) (by omega) HDR.out (set_begin HB3.out (isK_err HK.out).1)
  have HA4 : Hid (After E b ⟨rs, s.items + 1, 0⟩ W ((V2.setCell ⟨b, 3, none⟩ (.int .i64 ((s.items : Int) + 1))).setCell ⟨b, 1, none⟩ (.int .i64 ((n : Int) + 1)))) := ⟨hpw, HA3.out.2.trans hfr⟩
  have HR4 := Lib.hid (hfr.blk HR3.out (by omega))
  have HS2 := Lib.hid (lt_of_blk HR4.out)
  have HK4 := Lib.hid (hfr.blk HK3.out (by omega))
  refine (HBODY.out _ _ hpw).mono ?_
  rw [HX.out]
  clear hfr hpw c1 c3 f1 f3 t1 hlk
  intro e w3 hE
  obtain ⟨⟨sc, sd, sn, si, rfl, hF, hRI⟩, hA⟩ := hE
  dsimp only at hF hRI hA ⊢
  have HR5 : Hid (IB W.heap.size flat0 nil nil nil nil w3) := hA.2.blk HR4.out (by omega)
  have hK5 := hA.2.blk HK4.out (by omega)
  have HA5 := Lib.hid (HA4.out.trans hA)
  have HSZ := Lib.hid hA.2.size
  have t3 : w3.cell? ⟨V1.heap.size, 3, none⟩ = some (.int .i64 (t.pos : Int)) := cell_of_blk hK5 3
  have t3a : ∀ ob, (w3.alloc ob).cell? ⟨V1.heap.size, 3, none⟩ = some (.int .i64 (t.pos : Int)) := fun ob => cell_of_blk (blk_alloc hK5 ob) 3
  have HG := Lib.hid hF.forms
  have HG4 := Lib.hid hRI.form
  have HF := Lib.hid hF; have HRI := Lib.hid hRI
  have hs3 := lt_of_blk HR5.out
  have hv13 := lt_of_blk hK5
  clear hF hRI hA hK5 HA4 HR4 HK4 HR3 HB3 HK3 HA3
  have HI6 : Hid (IB w3.heap.size { X.flat with pos := t.pos } sc sd sn si (w3.alloc (.cells ((icells X.flat sc sd sn si).set 2 (.int .i64 (t.pos : Int))).toArray 57))) := blk_newn rfl
  have HR6 : Hid (IB W.heap.size flat0 nil nil nil nil (w3.alloc (.cells ((icells X.flat sc sd sn si).set 2 (.int .i64 (t.pos : Int))).toArray 57))) := blk_alloc HR5.out _
  have HA6 : Hid (After E b sx W (w3.alloc (.cells ((icells X.flat sc sd sn si).set 2 (.int .i64 (t.pos : Int))).toArray 57))) := HA5.out.alloc _
  obtain ⟨w99, hw99, hA99, hl99, ho99⟩ := item_end HR6.out HA6.out hbl { X.flat with pos := t.pos } sc sd sn si
  have HB6 := Lib.hid (lt_of_blk HR1.out)
  have HCAR : Hid (∀ (e : TypeId) (z : Nat) (v : Value) (n1 : Nat) (xs : List Value), w3.ownsRow ((V2.setCell ⟨b, 3, none⟩ (.int .i64 ((s.items : Int) + 1))).setCell ⟨b, 1, none⟩ (.int .i64 ((n : Int) + 1))).heap.size e z v n1 xs → w99.ownsRow W.heap.size e z v n1 xs) := by
    intro e z v n' xs ho
    have hsz2 : W.heap.size < ((V2.setCell ⟨b, 3, none⟩ (.int .i64 ((s.items : Int) + 1))).setCell ⟨b, 1, none⟩ (.int .i64 ((n : Int) + 1))).heap.size := HS2.out
    exact own_base (ho99 _ _ _ _ _ _ hsz2 (own_fr ho ((Fr.refl (fun _ => False) _).alloc _) (fun _ _ _ h => h))) (by omega)
  have HF9 := Lib.hid (HF.out.carry HCAR.out)
  have HRI9 := Lib.hid (HRI.out.carry HCAR.out)
  have HW99 := Lib.hid hw99; clear hw99
  have HA99 := Lib.hid hA99; clear hA99
  have HL99 := Lib.hid hl99; clear hl99 ho99
  go_wp2_with (first | (refine wpList_store_new rfl 57 _ _ rfl rfl (icells X.flat sc sd sn si).toArray rfl (info_size _ _ _ _ _) (icells_one _ _ _ _ _ HG.out.1 HG.out.2.1 HG.out.2.2 HG4.out) (by rfl) ?_) | (refine wpList_load_mid rfl 57 _ rfl w3.heap.size 0 rfl (icells { X.flat with pos := t.pos } sc sd sn si) _ HI6.out.range Tryd.underlying57 rfl (info_len _ _ _ _ _) ?_) | (refine wpList_store_mid rfl 57 _ _ rfl W.heap.size 0 (icells { X.flat with pos := t.pos } sc sd sn si).toArray rfl rfl (HR6.out.there' _ _ _ _ _) (info_size _ _ _ _ _) (icells_one _ _ _ _ _ HG.out.1 HG.out.2.1 HG.out.2.2 HG4.out) ?_; rw [HW99.out]))
  exact bodyPost_ret (v := .agg (icells { X.flat with pos := t.pos } sc sd sn si).toArray) (results_cell Tryd.results39 rfl HL99.out) rfl ⟨⟨sc, sd, sn, si, rfl, HF9.out, HRI9.out⟩, HA99.out⟩

end Go.Proofs.YtfaflipphkoiiaaDoor.Pr
namespace Go.Proofs.YtfaflipphkoiiaaDoor.Pr
open Go.RowKit Mem
open Lx (Tok)
set_option linter.unusedVariables false

set_option maxRecDepth 100000 in
set_option maxHeartbeats 4000000 in
theorem item_p3 (ws : List (Bytes × Nat)) (es : Array MapEntry) (clock : Nat) (E : Env) (b : Nat) (s : St) (W : World) (h : PW E b s W) (r : Nat) (hr : W.heap[r]? = some (.map es clock)) (hbr : b < r) (hk : isK 1 s = true) (t : Tok) (rs : List Tok) (hrs : s.rest = t :: rs) (k i : Nat) (hyes : Instr.findNow .string (.string ⟨t.text.toArray⟩) es.toList 0 = some (some (i, .func (.func (fid k)) #[] #[]))) (hit : s.items = 600) :
    Calls Tryd.prog 39 #[.pointer (some ⟨b, 0, none⟩), .map (some r)] W fun e w' => ItemEnd E b ⟨flat0, []⟩ { s with err := 3 } W e w' := by
  have hbl := h.2.2.1
  have hrl := lt_of_blk hr
  have HP := Lib.hid h; clear h
  have HK := Lib.hid hk; clear hk
  have HTB := Lib.hid hr; clear hr
  have HRS := Lib.hid hrs; clear hrs
  have HYES := Lib.hid hyes; clear hyes
  go_enter Tryd.func39, Tryd.ntmps39
  go_wp2_with fail
  refine (isKind_after E b s 1 _ ((After.start HP.out).alloc _).1).mono ?_
  rw [HK.out]
  rintro e V1 ⟨rfl, hA⟩
  have HR1 : Hid (IB W.heap.size flat0 nil nil nil nil V1) := hA.2.blk (blk_newn (by simp)) (by omega)
  have HT1 : Hid (V1.heap[r]? = some (.map es clock)) := hA.2.blk (blk_alloc HTB.out _) (by omega)
  have HA1 := Lib.hid (((After.start HP.out).alloc _).trans hA); clear hA HTB
  obtain ⟨_, _, hbV, hpt, n, hn1, hn2, hblk⟩ := HA1.out.1
  have hd : t :: rs = E.ts.drop n := by rw [← HRS.out]; exact hn2
  obtain ⟨hn, hti, hr2⟩ := drop_cons hd
  obtain ⟨g, o, hgA, hg, hc⟩ := hpt.2 (by omega)
  obtain ⟨q0, q1, q2, q3⟩ := hc n hn
  rw [hti] at q0 q1 q2 q3
  have c0 : V1.cell? ⟨b, 0, none⟩ = some (.slice (some ⟨g, o, none⟩) E.ts.length E.cap) := by rw [← hgA]; exact cell_of_blk hblk 0
  have c1 : V1.cell? ⟨b, 1, none⟩ = some (.int .i64 (n : Int)) := cell_of_blk hblk 1
  have hl := HA1.out.1.1
  have hgb := lt_of_blk hblk
  have HBK := Lib.hid hblk
  have HCA : Hid (∀ ob k i, k < V1.heap.size → (V1.alloc ob).cell? ⟨k, i, none⟩ = V1.cell? ⟨k, i, none⟩) := fun ob k i hk => World.cell?_alloc_lt V1 ob ⟨k, i, none⟩ hk
  have HDR := Lib.hid hr2
  have HN2 := Lib.hid hn2
  have HAT : Hid (atOf E.size { s with err := 3 } = t.pos) := by show atOf E.size { s with err := 3 } = t.pos; simp [atOf, HRS.out]
  clear hd hn2 hti hr2 hc hgA hpt hblk
  have HN1 : Hid (b < V1.heap.size ∧ g < V1.heap.size) := ⟨hbV, by omega⟩
  have i1 : (0 : Int) ≤ (n : Int) := Int.natCast_nonneg _
  have i2 : (n : Int) < (E.ts.length : Int) := by omega
  go_wp2_with fail
  go_region_held3 (fun w' => w'.cell? ⟨b, 0, none⟩ = some (.slice (some ⟨g, o, none⟩) E.ts.length E.cap) ∧ w'.cell? ⟨b, 1, none⟩ = some (.int .i64 (n : Int)) ∧ w'.cell? ⟨g, o + n * 4, none⟩ = some (.int .i64 (t.kind : Int)) ∧ w'.cell? ⟨g, o + n * 4 + 1, none⟩ = some (.string ⟨t.text.toArray⟩) ∧ w'.cell? ⟨g, o + n * 4 + 2, none⟩ = some (.int .i64 (t.n : Int)) ∧ w'.cell? ⟨g, o + n * 4 + 3, none⟩ = some (.int .i64 (t.pos : Int)))
    (first | exact ⟨c0, c1, q0, q1, q2, q3⟩ | exact ⟨(HCA.out _ _ _ HN1.out.1).trans c0, (HCA.out _ _ _ HN1.out.1).trans c1, (HCA.out _ _ _ HN1.out.2).trans q0, (HCA.out _ _ _ HN1.out.2).trans q1, (HCA.out _ _ _ HN1.out.2).trans q2, (HCA.out _ _ _ HN1.out.2).trans q3⟩) (fail)
  have hT2 : (V1.alloc (.cells #[.int .i64 (t.kind : Int), .string ⟨t.text.toArray⟩, .int .i64 (t.n : Int), .int .i64 (t.pos : Int)] 40)).drew.heap[r]? = some (.map es clock) := blk_alloc HT1.out _
  have hlk := run_look hT2 HYES.out
  have HR3 : Hid (IB W.heap.size flat0 nil nil nil nil (V1.alloc (.cells #[.int .i64 (t.kind : Int), .string ⟨t.text.toArray⟩, .int .i64 (t.n : Int), .int .i64 (t.pos : Int)] 40)).drew) := blk_alloc HR1.out _
  have HB3 : Hid ((V1.alloc (.cells #[.int .i64 (t.kind : Int), .string ⟨t.text.toArray⟩, .int .i64 (t.n : Int), .int .i64 (t.pos : Int)] 40)).drew.heap[b]? = some (.cells (pcells E n s) 67 (0, 0))) := blk_alloc HBK.out _
  have HK3 : Hid ((V1.alloc (.cells #[.int .i64 (t.kind : Int), .string ⟨t.text.toArray⟩, .int .i64 (t.n : Int), .int .i64 (t.pos : Int)] 40)).drew.heap[V1.heap.size]? = some (.cells #[.int .i64 (t.kind : Int), .string ⟨t.text.toArray⟩, .int .i64 (t.n : Int), .int .i64 (t.pos : Int)] 40 (0, 0))) := blk_newn (w := V1) rfl
  have HA3 := Lib.hid ((HA1.out.alloc (.cells #[.int .i64 (t.kind : Int), .string ⟨t.text.toArray⟩, .int .i64 (t.n : Int), .int .i64 (t.pos : Int)] 40)).drew)
  clear c0 c1 q0 q1 q2 q3 hT2 HT1
  generalize (V1.alloc (.cells #[.int .i64 (t.kind : Int), .string ⟨t.text.toArray⟩, .int .i64 (t.n : Int), .int .i64 (t.pos : Int)] 40)).drew = V2 at *
  have c1 : V2.cell? ⟨b, 1, none⟩ = some (.int .i64 (n : Int)) := cell_of_blk HB3.out 1
  have c3 : V2.cell? ⟨b, 3, none⟩ = some (.int .i64 (s.items : Int)) := cell_of_blk HB3.out 3
  have f1 : V2.frozen? ⟨b, 1, none⟩ = false := froz_of_blk HB3.out 1
  have f3 : V2.frozen? ⟨b, 3, none⟩ = false := froz_of_blk HB3.out 3
  have t1 : V2.cell? ⟨V1.heap.size, 1, none⟩ = some (.string ⟨t.text.toArray⟩) := cell_of_blk HK3.out 1
  have c4 : V2.cell? ⟨b, 4, none⟩ = some (.int .i64 (s.err : Int)) := cell_of_blk HB3.out 4
  have c5 : V2.cell? ⟨b, 5, none⟩ = some (.int .i64 (atOf E.size s : Int)) := cell_of_blk HB3.out 5
  have f4 : V2.frozen? ⟨b, 4, none⟩ = false := froz_of_blk HB3.out 4
  have f5 : V2.frozen? ⟨b, 5, none⟩ = false := froz_of_blk HB3.out 5
  have t3 : V2.cell? ⟨V1.heap.size, 3, none⟩ = some (.int .i64 (t.pos : Int)) := cell_of_blk HK3.out 3
  have HFAR : Hid (∀ i j v, (V2.setCell ⟨b, i, none⟩ v).cell? ⟨V1.heap.size, j, none⟩ = V2.cell? ⟨V1.heap.size, j, none⟩) := fun i j v => far_blk (by omega)
  have HFAR2 : Hid (∀ i i' j v v', ((V2.setCell ⟨b, i, none⟩ v).setCell ⟨b, i', none⟩ v').cell? ⟨V1.heap.size, j, none⟩ = V2.cell? ⟨V1.heap.size, j, none⟩) := fun i i' j v v' => (far_blk (by omega)).trans (far_blk (by omega))
  have h600 : ((s.items : Int) == 600) = true := beq_iff_eq.2 (by omega)
  have hi6 := HA3.out.1.2.1
  go_wp2_with fail
  go_region_held3 (fun w' => w'.cell? ⟨V1.heap.size, 3, none⟩ = some (.int .i64 (t.pos : Int))) (first | assumption | exact t3 | exact (HFAR.out _ _ _).trans t3 | exact ((HFAR2.out _ _ _ _ _).trans t3)) (fail)
  all_goals
    have hfr : Fr (fun k => k = b) V2 ((V2.setCell ⟨b, 4, none⟩ (.int .i64 3)).setCell ⟨b, 5, none⟩ (.int .i64 (t.pos : Int))).drew := (((Fr.refl _ _).setb 4 _).setb 5 _).drew
    have hpw : PW E b { s with err := 3 } ((V2.setCell ⟨b, 4, none⟩ (.int .i64 3)).setCell ⟨b, 5, none⟩ (.int .i64 (t.pos : Int))).drew := mod_PW HA3.out.1 hfr (by show s.items ≤ 600; omega) (by omega) HN2.out (set_err HB3.out 3 t.pos { s with err := 3 } rfl rfl HAT.out)
    have HA2 : Hid (After E b { s with err := 3 } W ((V2.setCell ⟨b, 4, none⟩ (.int .i64 3)).setCell ⟨b, 5, none⟩ (.int .i64 (t.pos : Int))).drew) := ⟨hpw, HA3.out.2.trans hfr⟩
    have HR2 : Hid (IB W.heap.size flat0 nil nil nil nil ((V2.setCell ⟨b, 4, none⟩ (.int .i64 3)).setCell ⟨b, 5, none⟩ (.int .i64 (t.pos : Int))).drew) := hfr.blk HR3.out (by omega)
    clear hfr hpw c1 c3 f1 f3 t1 hlk c4 c5 f4 f5 t3 HFAR HFAR2 HA3 HB3 HK3 HR3
    generalize ((V2.setCell ⟨b, 4, none⟩ (.int .i64 3)).setCell ⟨b, 5, none⟩ (.int .i64 (t.pos : Int))).drew = w2 at *
    obtain ⟨w99, hw99, hA99, hl99, ho99⟩ := item_end HR2.out HA2.out hbl flat0 nil nil nil nil
    have HW99 := Lib.hid hw99; clear hw99
    have HA99 := Lib.hid hA99; clear hA99
    have HL99 := Lib.hid hl99; clear hl99 ho99
    go_wp2_with (first | (refine wpList_build rfl 57 _ rfl #[] ?_ _ (build_zero _) ?_; (simp)) | (refine wpList_store_mid rfl 57 _ _ rfl W.heap.size 0 (icells flat0 nil nil nil nil).toArray rfl rfl (HR2.out.there' _ _ _ _ _) (info_size _ _ _ _ _) (icells_one _ _ _ _ _ ⟨_, _, _, rfl⟩ ⟨_, _, _, rfl⟩ ⟨_, _, _, rfl⟩ ⟨_, _, _, rfl⟩) ?_; rw [HW99.out]))
    exact bodyPost_ret (v := .agg (icells flat0 nil nil nil nil).toArray) (results_cell Tryd.results39 rfl HL99.out) rfl ⟨⟨nil, nil, nil, nil, rfl, FlatOK.nil _ _ _ rfl rfl rfl, RowI.nil _ _⟩, by have hq := HA99.out; rw [hit] at hq; exact hq⟩

/-- The method item, over a table of kinds whose parsers are known. -/
theorem item_any (ws : List (Bytes × Nat)) (es : Array MapEntry) (clock : Nat) (hT : Tab ws es) (E : Env) (b : Nat) (hbody : ∀ x k, ws.lookup x = some k → ∀ s W, PW E b s W → Calls Tryd.prog (fid k) #[.pointer (some ⟨b, 0, none⟩)] W fun e w' => ItemEnd E b (bodyI k s).1 (bodyI k s).2 W e w')
    (s : St) (W : World) (h : PW E b s W) (r : Nat) (hr : W.heap[r]? = some (.map es clock)) (hbr : b < r) :
    Calls Tryd.prog 39 #[.pointer (some ⟨b, 0, none⟩), .map (some r)] W fun e w' => ItemEnd E b (itemI ws s).1 (itemI ws s).2 W e w' := by
  cases hk : isK 1 s with
  | false =>
    have e : itemI ws s = (⟨flat0, []⟩, (fail s).2) := by simp [itemI, bnd, start, hk, ret]
    rw [e]
    exact item_p1 ws es clock E b s W h r hr hbr hk
  | true =>
    obtain ⟨he, t, rs, hrs, _⟩ := isK_err hk
    cases hl : ws.lookup t.text with
    | none =>
      have e : itemI ws s = (⟨flat0, []⟩, (fail s).2) := by simp [itemI, bnd, start, hk, ret, hrs, hl]
      rw [e]
      exact item_p2 ws es clock E b s W h r hr hbr hk t rs hrs (hT.no _ hl)
    | some k =>
      obtain ⟨i, hi⟩ := hT.yes _ _ hl
      by_cases h6 : s.items = 600
      · have e : itemI ws s = (⟨flat0, []⟩, { s with err := 3 }) := by simp [itemI, bnd, start, hk, ret, hrs, hl, h6]
        rw [e]
        exact item_p3 ws es clock E b s W h r hr hbr hk t rs hrs k i hi h6
      · have e : itemI ws s = (⟨{ (bodyI k ⟨rs, s.items + 1, 0⟩).1.flat with pos := t.pos }, (bodyI k ⟨rs, s.items + 1, 0⟩).1.inner⟩, (bodyI k ⟨rs, s.items + 1, 0⟩).2) := by simp [itemI, bnd, start, hk, ret, hrs, hl, h6]
        rw [e]
        exact item_p4 ws es clock E b s W h r hr hbr hk t rs hrs k i hi h6 (hT.ent _ _ hl) (hbody _ _ hl)
end Go.Proofs.YtfaflipphkoiiaaDoor.Pr
namespace Go.Proofs.YtfaflipphkoiiaaDoor.Pr
open Go.RowKit Mem
open Lx (Tok)
set_option linter.unusedVariables false

def Fits : List (Bytes × Nat) → List MapEntry → Prop
  | [], [] => True
  | p :: ws, e :: es => (e.key = .string ⟨p.1.toArray⟩ ∧ e.val = .func (.func (fid p.2)) #[] #[]) ∧ Fits ws es
  | _, _ => False
theorem same_str (x y : Bytes) : Instr.sameNow .string (.string ⟨x.toArray⟩) (.string ⟨y.toArray⟩) = some (x == y) := by
  simp only [Instr.sameNow]
  congr 1
  rw [Bool.eq_iff_iff, MapKept.bytes_beq]
  simp
theorem find_fits (x : Bytes) : ∀ (ws : List (Bytes × Nat)) (es : List MapEntry) (i : Nat), Fits ws es →
    (∀ k, ws.lookup x = some k → ∃ j, Instr.findNow .string (.string ⟨x.toArray⟩) es i = some (some (j, .func (.func (fid k)) #[] #[]))) ∧ (ws.lookup x = none → Instr.findNow .string (.string ⟨x.toArray⟩) es i = some none)
  | [], [], i, h => ⟨fun k hk => by simp at hk, fun _ => rfl⟩
  | p :: ws, [], i, h => h.elim
  | [], e :: es, i, h => h.elim
  | (y, k0) :: ws, e :: es, i, h => by
    obtain ⟨⟨h1, h2⟩, h3⟩ := h
    have ih := find_fits x ws es (i + 1) h3
    unfold Instr.findNow
    rw [h1, same_str, List.lookup_cons]
    cases hxy : x == y with
    | true =>
      refine ⟨fun k hk => ⟨i, ?_⟩, fun hk => ?_⟩
      · simp only at hk
        injection hk with hk
        simp only [h2, ← hk]
      · simp only at hk; cases hk
    | false =>
      simp only
      exact ih
theorem fits_inner : Fits innerWords innerEnts.toList := by
  unfold innerWords innerEnts
  simp only [Fits]
  repeat' constructor
theorem fits_all : Fits allWords allEnts.toList := by
  unfold allWords innerWords allEnts
  simp only [Fits, List.cons_append, List.nil_append]
  repeat' constructor
theorem lookup_mem {x : Bytes} {k : Nat} : ∀ {ws : List (Bytes × Nat)}, ws.lookup x = some k → (x, k) ∈ ws
  | (y, k0) :: ws, h => by
    rw [List.lookup_cons] at h
    cases hxy : x == y with
    | true =>
      simp only [hxy] at h
      injection h with h
      obtain rfl : x = y := by simpa using hxy
      subst h
      exact List.mem_cons_self
    | false => simp only [hxy] at h; exact List.mem_cons_of_mem _ (lookup_mem h)
theorem lookup_inner {x : Bytes} {k : Nat} (h : innerWords.lookup x = some k) : k = 9 ∨ k = 10 ∨ k = 11 ∨ k = 12 ∨ k = 14 := by
  have := lookup_mem h
  simp [innerWords] at this
  rcases this with h | h | h | h | h <;> simp [h.2]
theorem lookup_all {x : Bytes} {k : Nat} (h : allWords.lookup x = some k) : 1 ≤ k ∧ k ≤ 14 := by
  have := lookup_mem h
  simp [allWords, innerWords] at this
  rcases this with h | h | h | h | h | h | h | h | h | h | h | h | h | h <;> simp [h.2]
theorem ent_role (args : Array Value) (W : World) : (callFunc 62 args).run Tryd.prog W = .ok (.enter 62 args) W := by kernel_rfl
theorem ent_unit (args : Array Value) (W : World) : (callFunc 63 args).run Tryd.prog W = .ok (.enter 63 args) W := by kernel_rfl
theorem ent_weekend (args : Array Value) (W : World) : (callFunc 64 args).run Tryd.prog W = .ok (.enter 64 args) W := by kernel_rfl
theorem ent_holiday (args : Array Value) (W : World) : (callFunc 65 args).run Tryd.prog W = .ok (.enter 65 args) W := by kernel_rfl
theorem ent_spanDefinition (args : Array Value) (W : World) : (callFunc 66 args).run Tryd.prog W = .ok (.enter 66 args) W := by kernel_rfl
theorem ent_sumDefinition (args : Array Value) (W : World) : (callFunc 67 args).run Tryd.prog W = .ok (.enter 67 args) W := by kernel_rfl
theorem ent_act (args : Array Value) (W : World) : (callFunc 68 args).run Tryd.prog W = .ok (.enter 68 args) W := by kernel_rfl
theorem ent_duty (args : Array Value) (W : World) : (callFunc 88 args).run Tryd.prog W = .ok (.enter 88 args) W := by kernel_rfl
theorem ent_ban (args : Array Value) (W : World) : (callFunc 89 args).run Tryd.prog W = .ok (.enter 89 args) W := by kernel_rfl
theorem ent_option (args : Array Value) (W : World) : (callFunc 90 args).run Tryd.prog W = .ok (.enter 90 args) W := by kernel_rfl
theorem ent_watch (args : Array Value) (W : World) : (callFunc 91 args).run Tryd.prog W = .ok (.enter 91 args) W := by kernel_rfl
theorem ent_template (args : Array Value) (W : World) : (callFunc 69 args).run Tryd.prog W = .ok (.enter 69 args) W := by kernel_rfl
theorem ent_include (args : Array Value) (W : World) : (callFunc 92 args).run Tryd.prog W = .ok (.enter 92 args) W := by kernel_rfl
theorem ent_fid (k : Nat) (h1 : 1 ≤ k) (h2 : k ≤ 14) (args : Array Value) (W : World) : (callFunc (fid k) args).run Tryd.prog W = .ok (.enter (fid k) args) W := by
  obtain h | h | h | h | h | h | h | h | h | h | h | h | h | h : k = 1 ∨ k = 2 ∨ k = 3 ∨ k = 4 ∨ k = 5 ∨ k = 6 ∨ k = 7 ∨ k = 8 ∨ k = 9 ∨ k = 10 ∨ k = 11 ∨ k = 12 ∨ k = 13 ∨ k = 14 := by omega
  all_goals subst h
  · exact ent_party args W
  · exact ent_role args W
  · exact ent_unit args W
  · exact ent_weekend args W
  · exact ent_holiday args W
  · exact ent_spanDefinition args W
  · exact ent_sumDefinition args W
  · exact ent_act args W
  · exact ent_duty args W
  · exact ent_ban args W
  · exact ent_option args W
  · exact ent_watch args W
  · exact ent_template args W
  · exact ent_include args W
theorem tab_inner : Tab innerWords innerEnts :=
  ⟨fun x k h => (find_fits x _ _ 0 fits_inner).1 k h, fun x h => (find_fits x _ _ 0 fits_inner).2 h, fun x k h args W => ent_fid k (by have := lookup_inner h; omega) (by have := lookup_inner h; omega) args W⟩
theorem tab_all : Tab allWords allEnts :=
  ⟨fun x k h => (find_fits x _ _ 0 fits_all).1 k h, fun x h => (find_fits x _ _ 0 fits_all).2 h, fun x k h args W => ent_fid k (lookup_all h).1 (lookup_all h).2 args W⟩
theorem start_kind {ws : List (Bytes × Nat)} {s : St} {kp : Nat × Nat} (h : (start ws s).1 = some kp) : ∃ x, ws.lookup x = some kp.1 := by
  unfold start at h
  cases hk : isK 1 s with
  | false => rw [hk] at h; simp at h
  | true =>
    rw [hk] at h
    simp only [if_true] at h
    cases hr : s.rest with
    | nil => rw [hr] at h; simp at h
    | cons t r =>
      rw [hr] at h
      simp only at h
      cases hl : ws.lookup t.text with
      | none => rw [hl] at h; simp at h
      | some k =>
        rw [hl] at h
        simp only at h
        by_cases h6 : s.items = 600
        · rw [if_pos h6] at h; simp at h
        · rw [if_neg h6] at h
          simp only [Option.some.injEq] at h
          exact ⟨_, by rw [hl, ← h]⟩
theorem itemI_inner (s : St) : itemI innerWords s = (⟨(inner s).1, []⟩, (inner s).2) := by
  unfold itemI inner bnd
  cases h : (start innerWords s).1 with
  | none => rfl
  | some kp =>
    obtain ⟨x, hx⟩ := start_kind h
    have hk := lookup_inner hx
    have : kp.1 ≠ 13 := by omega
    simp only [bodyI, if_neg this]
    rfl
theorem itemI_all (s : St) : itemI allWords s = item s := by
  unfold itemI item bnd
  cases h : (start allWords s).1 with
  | none => rfl
  | some kp =>
    by_cases h13 : kp.1 = 13
    · simp only [bodyI, if_pos h13]
    · simp only [bodyI, if_neg h13]
      rfl
/-- The method item inside a template. -/
theorem inner_any (E : Env) (b : Nat) (s : St) (W : World) (h : PW E b s W) (r : Nat) (hr : W.heap[r]? = some (.map innerEnts 5)) (hbr : b < r) :
    Calls Tryd.prog 39 #[.pointer (some ⟨b, 0, none⟩), .map (some r)] W fun e w' => (∃ sc sd sn, e = .returned (.agg (icells (inner s).1 sc sd sn nil).toArray) ∧ FlatOK W.heap.size (inner s).1 sc sd sn w') ∧ After E b (inner s).2 W w' := by
  have := item_any innerWords innerEnts 5 tab_inner E b (fun x k hx s W hP => body_any k (by have := lookup_inner hx; omega) E b s W hP) s W h r hr hbr
  rw [itemI_inner] at this
  refine this.mono ?_
  rintro e w' ⟨⟨sc, sd, sn, si, rfl, hF, hR⟩, hA⟩
  obtain rfl := hR.1 rfl
  exact ⟨⟨sc, sd, sn, rfl, hF⟩, hA⟩
end Go.Proofs.YtfaflipphkoiiaaDoor.Pr
namespace Go.Proofs.YtfaflipphkoiiaaDoor.Pr
open Go.RowKit Mem
open Lx (Tok)
set_option linter.unusedVariables false

theorem info_itemz : ∃ z, (Tryd.prog.info? 57).map (fun i => (i.zero, i.size, i.bytes)) = some (some z, 33, 368) ∧ z.cells.size = 33 := ⟨.agg (icells flat0 nil nil nil nil).toArray, by kernel_rfl, rfl⟩
theorem build_tmpl (n : Bytes) (w : World) : (Instr.build 57 #[(0, .int .i64 13), (1, .string ⟨n.toArray⟩)]).run Tryd.prog w = .ok (.agg (icells { flat0 with kind := 13, name := n } nil nil nil nil).toArray) w := by kernel_rfl
theorem run_bslice (f : Flat) (sc sd sn si : Value) (w : World) : (Instr.buildSlice 25 1 #[(0, .agg (icells f sc sd sn si).toArray)]).run Tryd.prog w = .ok (.slice (some ⟨w.heap.size, 0, none⟩) 1 1) (w.alloc (.cells (icells f sc sd sn si).toArray 57)) := by kernel_rfl
/-- A slice of one item is made, as one step of a region that draws. -/
theorem step_bslice {ops : Array Oper} {o : Oper} {a : Act} {w : World} {K : Act → World → Prop} {Q : Exit → Act → World → Prop} {X : Prop} (hg : o.guard = none) (x : Operand) (hop : o.op = .buildSlice 25 1 #[(0, x)]) (f : Flat) (sc sd sn si : Value) (hx : a.eval x = .agg (icells f sc sd sn si).toArray)
    (h : K (a.put o.dst (.slice (some ⟨w.heap.size, 0, none⟩) 1 1)) (w.alloc (.cells (icells f sc sd sn si).toArray 57))) :
    if Region.wanted o (yielded ops a.tmps) = true then Oper.wp Tryd.prog o a w K Q else X := by
  have hw : Region.wanted o (yielded ops a.tmps) = true := by simp [Region.wanted, hg]
  rw [if_pos hw]
  unfold Oper.wp
  simp [execOp, hop, hx, run_bslice, Result.andThen]
  exact h
theorem ent_item (args : Array Value) (W : World) : (callFunc 39 args).run Tryd.prog W = .ok (.enter 39 args) W := by kernel_rfl
theorem step_call2 {ops : Array Oper} {o : Oper} {a : Act} {w : World} {K : Act → World → Prop} {Q : Exit → Act → World → Prop} {X : Prop} (hg : o.guard = none) (f : Nat) (x0 x1 : Operand) (ts : Array TypeId) (hop : o.op = Op.call { callee := Callee.value (Operand.func f), args := #[x0, x1], argTypes := ts })
    (hent : ∀ args W, (callFunc f args).run Tryd.prog W = .ok (.enter f args) W) (v0 v1 : Value) (hx : a.eval x0 = v0) (hy : a.eval x1 = v1) {R : Ending → World → Prop} (hc : Calls Tryd.prog f #[v0, v1] w R) (h : ∀ e w', R e w' → ∃ v, e = .returned v ∧ K (a.put o.dst v) w') :
    if Region.wanted o (yielded ops a.tmps) = true then Oper.wp Tryd.prog o a w K Q else X :=
  step_call hg f #[x0, x1] ts hop hent #[v0, v1] (by simp [hx, hy]) hc h
theorem IB.set_si {q : Nat} {f : Flat} {sc sd sn si : Value} {W : World} (h : IB q f sc sd sn si W) (x : Value) : IB q f sc sd sn x (W.setCell ⟨q, 32, none⟩ x) := by
  have h2 := blk_set h 32 x
  exact h2

theorem own_grown {w w' : World} {base : Nat} {e : TypeId} {z : Nat} {u : Value} {n : Nat} {xs : List Value} {row : Option Nat} (h : w.ownsRow base e z u n xs) (hg : w.grownBy w' row) (hne : ∀ g, u.ownBlock = some g → row ≠ some g) : w'.ownsRow base e z u n xs := by
  refine ⟨h.1, ?_⟩
  rcases h.2 with h2 | ⟨g, cap, cur, hv, hb, hh, r⟩
  · exact .inl h2
  · subst hv
    exact .inr ⟨g, cap, cur, rfl, hb, (hg.block g (lt_of_blk hh) (fun e => hne g rfl e.symm)).trans hh, r⟩
theorem own_apart {w : World} {b1 b2 : Nat} {e1 e2 : TypeId} {z1 z2 : Nat} {v1 v2 : Value} {n1 n2 : Nat} {x1 x2 : List Value} (h1 : w.ownsRow b1 e1 z1 v1 n1 x1) (h2 : w.ownsRow b2 e2 z2 v2 n2 x2) (hne : e1 ≠ e2) : ∀ g, v1.ownBlock = some g → v2.ownBlock ≠ some g := by
  intro g hg1 hg2
  rcases h1.2 with ⟨rfl, _⟩ | ⟨a, c, cur, rfl, _, hh, _⟩
  · cases hg1
  rcases h2.2 with ⟨rfl, _⟩ | ⟨a', c', cur', rfl, _, hh', _⟩
  · cases hg2
  simp only [Value.ownBlock] at hg1 hg2
  injection hg1 with hg1
  injection hg2 with hg2
  subst hg1 hg2
  rw [hh] at hh'
  injection hh' with hh'
  injection hh' with _ e _
  exact hne e
theorem FlatOK.grown {w w' : World} {base b2 n : Nat} {f : Flat} {sc sd sn v : Value} {xs : List Value} (h : FlatOK base f sc sd sn w) (hv : w.ownsRow b2 57 33 v n xs) (hg : w.grownBy w' v.ownBlock) : FlatOK base f sc sd sn w' :=
  ⟨own_grown h.1 hg (own_apart h.1 hv (by decide)), own_grown h.2.1 hg (own_apart h.2.1 hv (by decide)), own_grown h.2.2 hg (own_apart h.2.2 hv (by decide))⟩
theorem RowI.grown {w w' : World} {base b2 n : Nat} {l : List Flat} {si v : Value} {xs : List Value} (h : RowI base l si w) (hv : w.ownsRow b2 57 33 v n xs) (hg : w.grownBy w' v.ownBlock) (hne : ∀ g, si.ownBlock = some g → v.ownBlock ≠ some g) : RowI base l si w' := by
  obtain ⟨h0, vs, h1, h2, h3⟩ := h
  exact ⟨h0, vs, h1, own_grown h2 hg hne, fun p hp => (h3 p hp).grown hv hg⟩
theorem RowI.lt {w : World} {base : Nat} {l : List Flat} {si : Value} (h : RowI base l si w) : ∀ g, si.ownBlock = some g → base ≤ g ∧ g < w.heap.size := by
  obtain ⟨_, vs, _, h2, _⟩ := h
  exact own_lt h2

abbrev Sl := Value × Value × Value × Value
def scells (l : List Item) (vs : List Sl) : List Value := (l.zip vs).flatMap fun p => icells p.1.flat p.2.1 p.2.2.1 p.2.2.2.1 p.2.2.2.2
/-- A row of items of the call's own, with the slices of their lists. -/
def RowSv (base : Nat) (l : List Item) (vs : List Sl) (v : Value) (W : World) : Prop :=
  (l = [] → v = nil) ∧ vs.length = l.length ∧ W.ownsRow base 57 33 v l.length (scells l vs) ∧
    ∀ p ∈ l.zip vs, FlatOK base p.1.flat p.2.1 p.2.2.1 p.2.2.2.1 W ∧ RowI base p.1.inner p.2.2.2.2 W ∧ ∀ g, p.2.2.2.2.ownBlock = some g → v.ownBlock ≠ some g
def RowS (base : Nat) (l : List Item) (v : Value) (W : World) : Prop := ∃ vs, RowSv base l vs v W
theorem RowSv.nil (base : Nat) (W : World) : RowSv base [] [] nil W := ⟨fun _ => rfl, rfl, World.ownsRow_nil _ _ _ _, fun p hp => by cases hp⟩
theorem RowSv.carry {base base' : Nat} {l : List Item} {vs : List Sl} {v : Value} {W W' : World} (h : RowSv base l vs v W) (hc : ∀ e z v n xs, W.ownsRow base e z v n xs → W'.ownsRow base' e z v n xs) : RowSv base' l vs v W' :=
  ⟨h.1, h.2.1, hc _ _ _ _ _ h.2.2.1, fun p hp => ⟨(h.2.2.2 p hp).1.carry hc, (h.2.2.2 p hp).2.1.carry hc, (h.2.2.2 p hp).2.2⟩⟩
theorem RowSv.fr {base : Nat} {l : List Item} {vs : List Sl} {v : Value} {W W' : World} {S : Nat → Prop} (h : RowSv base l vs v W) (hf : Fr S W W') (hs : ∀ k, base ≤ k → k < W.heap.size → ¬ S k) : RowSv base l vs v W' :=
  h.carry fun e z v n xs ho => own_fr ho hf hs
theorem RowSv.form {base : Nat} {l : List Item} {vs : List Sl} {v : Value} {W : World} (h : RowSv base l vs v W) : ∃ A cap, v = .slice A l.length cap := own_form h.2.2.1
/-- An item is appended. -/
theorem RowSv.snoc {base : Nat} {l : List Item} {vs : List Sl} {v : Value} {wr w2 w5 : World} {ob : Obj} {S : Nat → Prop} (h : RowSv base l vs v wr) (hf : Fr S wr w2) (hs : ∀ k, base ≤ k → k < wr.heap.size → ¬ S k) (hb : base ≤ wr.heap.size) {x : Item} {sc sd sn si : Value}
    (hF : FlatOK wr.heap.size x.flat sc sd sn w2) (hI : RowI wr.heap.size x.inner si w2) (hg : (w2.alloc ob).grownBy w5 v.ownBlock) {g cap : Nat} (hown : w5.ownsRow base 57 33 (.slice (some ⟨g, 0, none⟩) (l.length + 1) cap) (l.length + 1) (scells l vs ++ icells x.flat sc sd sn si)) (hat : v.ownBlock = some g ∨ g = w2.heap.size + 1) :
    RowSv base (l ++ [x]) (vs ++ [(sc, sd, sn, si)]) (.slice (some ⟨g, 0, none⟩) (l.length + 1) cap) w5 := by
  have h2 := h.fr hf hs
  have hsz := hf.size
  have h3 := h2.fr (S := fun _ => False) ((Fr.refl _ _).alloc ob) (fun _ _ _ h => h)
  have hv := h3.2.2.1
  have hvl := own_lt h.2.2.1
  have hz : (l ++ [x]).zip (vs ++ [(sc, sd, sn, si)]) = l.zip vs ++ [(x, sc, sd, sn, si)] := by
    rw [List.zip_append h.2.1.symm]; rfl
  refine ⟨fun e => by simp at e, by simp [h.2.1], ?_, ?_⟩
  · unfold scells
    rw [hz, List.flatMap_append, List.length_append]
    have e : [(x, sc, sd, sn, si)].flatMap (fun p : Item × Sl => icells p.1.flat p.2.1 p.2.2.1 p.2.2.2.1 p.2.2.2.2) = icells x.flat sc sd sn si := by simp
    rw [e]
    exact hown
  · rw [hz]
    intro p hp
    rcases List.mem_append.1 hp with hp | hp
    · obtain ⟨p1, p2, p3⟩ := h3.2.2.2 p hp
      refine ⟨p1.grown hv hg, p2.grown hv hg p3, ?_⟩
      intro k hk e
      simp only [Value.ownBlock] at e
      injection e with e
      rcases hat with hat | hat
      · exact p3 k hk (by rw [hat, e])
      · have := ((h2.2.2.2 p hp).2.1.lt k hk).2
        omega
    · rw [List.mem_singleton] at hp
      subst hp
      have hF2 : FlatOK wr.heap.size x.flat sc sd sn (w2.alloc ob) := hF.carry fun e z v n xs ho => own_fr ho ((Fr.refl (fun _ => False) _).alloc ob) (fun _ _ _ h => h)
      have hI2 : RowI wr.heap.size x.inner si (w2.alloc ob) := hI.carry fun e z v n xs ho => own_fr ho ((Fr.refl (fun _ => False) _).alloc ob) (fun _ _ _ h => h)
      have hne : ∀ k, si.ownBlock = some k → v.ownBlock ≠ some k := fun k hk e => by
        have := (hI.lt k hk).1
        have := (hvl k e).2
        omega
      have hF3 := hF2.grown hv hg
      have hI3 := hI2.grown hv hg hne
      refine ⟨hF3.carry fun e z v n xs ho => own_base ho hb, hI3.carry fun e z v n xs ho => own_base ho hb, ?_⟩
      intro k hk e
      simp only [Value.ownBlock] at e
      injection e with e
      rcases hat with hat | hat
      · exact hne k hk (by rw [hat, e])
      · have := (hI.lt k hk).2
        omega
/-- Another block than the rows' is written. -/
theorem RowSv.set {base : Nat} {l : List Item} {vs : List Sl} {v : Value} {W : World} (h : RowSv base l vs v W) {q i : Nat} (hq : q < base) (u : Value) : RowSv base l vs v (W.setCell ⟨q, i, none⟩ u) :=
  h.fr (S := fun k => k = q) ((Fr.refl _ _).setb i u) (fun k hk _ e => by omega)
theorem fm_congr {α β : Type} {f g : α → List β} : ∀ (l : List α), (∀ x ∈ l, f x = g x) → l.flatMap f = l.flatMap g
  | [], _ => rfl
  | a :: l, h => by rw [List.flatMap_cons, List.flatMap_cons, h a List.mem_cons_self, fm_congr l fun x hx => h x (List.mem_cons_of_mem _ hx)]
def solo (l : List Flat) : List Item := l.map fun f => ⟨f, []⟩
theorem RowSv.inner {base : Nat} {l : List Flat} {v : Value} {W : World} {vs : List Sl} (h : RowSv base (solo l) vs v W) : RowI base l v W := by
  obtain ⟨h0, h1, h2, h3⟩ := h
  have hl : (solo l).length = l.length := by simp [solo]
  have hzip : (solo l).zip vs = (l.zip vs).map fun p => (⟨p.1, []⟩, p.2) := by
    unfold solo
    rw [List.zip_map_left]
    rfl
  have hnil : ∀ p ∈ l.zip vs, p.2.2.2.2 = Pr.nil := by
    intro p hp
    exact (h3 (⟨p.1, []⟩, p.2) (by rw [hzip]; exact List.mem_map.2 ⟨p, hp, rfl⟩)).2.1.1 rfl
  refine ⟨fun e => h0 (by rw [e]; rfl), vs.map fun q => (q.1, q.2.1, q.2.2.1), by rw [List.length_map, h1, hl], ?_, ?_⟩
  · rw [hl] at h2
    have e : scells (solo l) vs = (l.zip (vs.map fun q => (q.1, q.2.1, q.2.2.1))).flatMap fun p => icells p.1 p.2.1 p.2.2.1 p.2.2.2 Pr.nil := by
      unfold scells
      rw [hzip, List.zip_map_right, List.flatMap_map, List.flatMap_map]
      refine fm_congr _ fun p hp => ?_
      show icells p.1 p.2.1 p.2.2.1 p.2.2.2.1 p.2.2.2.2 = icells p.1 p.2.1 p.2.2.1 p.2.2.2.1 Pr.nil
      rw [hnil p hp]
    rw [← e]
    exact h2
  · intro p hp
    rw [List.zip_map_right] at hp
    obtain ⟨q, hq, rfl⟩ := List.mem_map.1 hp
    exact (h3 (⟨q.1, []⟩, q.2) (by rw [hzip]; exact List.mem_map.2 ⟨q, hq, rfl⟩)).1
theorem After2.grown {E : Env} {b q : Nat} {s : St} {W W1 w4 : World} {v : Value} {o : Obj} (h : After2 E b q s W W1) (hg : (W1.alloc o).grownBy w4 v.ownBlock) (hv : ∀ g, v.ownBlock = some g → W.heap.size ≤ g) (hb : b < W.heap.size) : After2 E b q s W w4 := by
  have h2 : Fr (fun k => W.heap.size ≤ k) W1 w4 := ((Fr.refl _ _).alloc o).grown hg (fun k hk => .inl (hv k hk))
  exact ⟨h.1.fr h2 (fun k hk hs => by omega), h.2.trans' h2 (fun i hi hs => by omega)⟩
/-- Is there no error, as the parser's memory says it. -/
def okn (b : Nat) (w : World) : Nat := match w.cell? ⟨b, 4, none⟩ with | some (.int _ 0) => 1 | _ => 0
theorem PW.okn {E : Env} {b : Nat} {s : St} {w : World} (h : PW E b s w) : okn b w = if s.err = 0 then 1 else 0 := by
  obtain ⟨n, h1, h2, _, _, _, _, c4, _⟩ := h.cells
  unfold Pr.okn
  rw [c4]
  by_cases he : s.err = 0
  · simp [he]
  · rw [if_neg he]
    split
    · rename_i h
      injection h with h
      injection h with _ h
      omega
    · rfl
end Go.Proofs.YtfaflipphkoiiaaDoor.Pr
