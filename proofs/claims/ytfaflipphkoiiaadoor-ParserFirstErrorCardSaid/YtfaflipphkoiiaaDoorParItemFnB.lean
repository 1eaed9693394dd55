/-
  What the parser's method item returns: too many items, and all cases together.
-/
import Derived.Test.YtfaflipphkoiiaaDoorParItemFn
namespace Go.Proofs.YtfaflipphkoiiaaDoor.Pr
open Go.RowKit Mem
open Lx (Tok)
set_option linter.unusedVariables false

set_option maxRecDepth 100000 in
set_option maxHeartbeats 4000000 in
theorem item_p3 (ws : List (Bytes × Nat)) (es : Array MapEntry) (clock : Nat) (E : Env) (b : Nat) (s : St) (W : World) (h : PW E b s W) (r : Nat) (hr : W.heap[r]? = some (.map es clock)) (hbr : b < r) (hk : isK 1 s = true) (t : Tok) (rs : List Tok) (hrs : s.rest = t :: rs) (k i : Nat) (hyes : Instr.findNow .string (.string ⟨t.text.toArray⟩) es.toList 0 = some (some (i, .func (.func (fid k)) #[] #[]))) (hit : s.items = 600) :
    Calls Tryd.prog 39 #[.pointer (some ⟨b, 0, none⟩), .map (some r)] W fun e w' => ItemEnd E b ⟨flat0, []⟩ { s with err := 3 } W e w' := by
  have hbl := h.2.2.1
  have hrl := lt_of_blk hr
  have HP := Lib.hid h; clear h
  have HK := Lib.hid hk; clear hk
  have HTB := Lib.hid hr; clear hr
  have HRS := Lib.hid hrs; clear hrs
  have HYES := Lib.hid hyes; clear hyes
  go_enter Tryd.func39, Tryd.ntmps39
  go_wp2_with fail
  refine (isKind_after E b s 1 _ ((After.start HP.out).alloc _).1).mono ?_
  rw [HK.out]
  rintro e V1 ⟨rfl, hA⟩
  have HR1 : Hid (IB W.heap.size flat0 nil nil nil nil V1) := hA.2.blk (blk_newn (by simp)) (by omega)
  have HT1 : Hid (V1.heap[r]? = some (.map es clock)) := hA.2.blk (blk_alloc HTB.out _) (by omega)
  have HA1 := Lib.hid (((After.start HP.out).alloc _).trans hA); clear hA HTB
  obtain ⟨_, _, hbV, hpt, n, hn1, hn2, hblk⟩ := HA1.out.1
  have hd : t :: rs = E.ts.drop n := by rw [← HRS.out]; exact hn2
  obtain ⟨hn, hti, hr2⟩ := drop_cons hd
  obtain ⟨g, o, hgA, hg, hc⟩ := hpt.2 (by omega)
  obtain ⟨q0, q1, q2, q3⟩ := hc n hn
  rw [hti] at q0 q1 q2 q3
  have c0 : V1.cell? ⟨b, 0, none⟩ = some (.slice (some ⟨g, o, none⟩) E.ts.length E.cap) := by rw [← hgA]; exact cell_of_blk hblk 0
  have c1 : V1.cell? ⟨b, 1, none⟩ = some (.int .i64 (n : Int)) := cell_of_blk hblk 1
  have hl := HA1.out.1.1
  have hgb := lt_of_blk hblk
  have HBK := Lib.hid hblk
  have HCA : Hid (∀ ob k i, k < V1.heap.size → (V1.alloc ob).cell? ⟨k, i, none⟩ = V1.cell? ⟨k, i, none⟩) := fun ob k i hk => World.cell?_alloc_lt V1 ob ⟨k, i, none⟩ hk
  have HDR := Lib.hid hr2
  have HN2 := Lib.hid hn2
  have HAT : Hid (atOf E.size { s with err := 3 } = t.pos) := by show atOf E.size { s with err := 3 } = t.pos; simp [atOf, HRS.out]
  clear hd hn2 hti hr2 hc hgA hpt hblk
  have HN1 : Hid (b < V1.heap.size ∧ g < V1.heap.size) := ⟨hbV, by omega⟩
  have i1 : (0 : Int) ≤ (n : Int) := Int.natCast_nonneg _
  have i2 : (n : Int) < (E.ts.length : Int) := by omega
  go_wp2_with fail
  go_region_held3 (fun w' => w'.cell? ⟨b, 0, none⟩ = some (.slice (some ⟨g, o, none⟩) E.ts.length E.cap) ∧ w'.cell? ⟨b, 1, none⟩ = some (.int .i64 (n : Int)) ∧ w'.cell? ⟨g, o + n * 4, none⟩ = some (.int .i64 (t.kind : Int)) ∧ w'.cell? ⟨g, o + n * 4 + 1, none⟩ = some (.string ⟨t.text.toArray⟩) ∧ w'.cell? ⟨g, o + n * 4 + 2, none⟩ = some (.int .i64 (t.n : Int)) ∧ w'.cell? ⟨g, o + n * 4 + 3, none⟩ = some (.int .i64 (t.pos : Int)))
    (first | exact ⟨c0, c1, q0, q1, q2, q3⟩ | exact ⟨(HCA.out _ _ _ HN1.out.1).trans c0, (HCA.out _ _ _ HN1.out.1).trans c1, (HCA.out _ _ _ HN1.out.2).trans q0, (HCA.out _ _ _ HN1.out.2).trans q1, (HCA.out _ _ _ HN1.out.2).trans q2, (HCA.out _ _ _ HN1.out.2).trans q3⟩) (fail)
  have hT2 : (V1.alloc (.cells #[.int .i64 (t.kind : Int), .string ⟨t.text.toArray⟩, .int .i64 (t.n : Int), .int .i64 (t.pos : Int)] 40)).drew.heap[r]? = some (.map es clock) := blk_alloc HT1.out _
  have hlk := run_look hT2 HYES.out
  have HR3 : Hid (IB W.heap.size flat0 nil nil nil nil (V1.alloc (.cells #[.int .i64 (t.kind : Int), .string ⟨t.text.toArray⟩, .int .i64 (t.n : Int), .int .i64 (t.pos : Int)] 40)).drew) := blk_alloc HR1.out _
  have HB3 : Hid ((V1.alloc (.cells #[.int .i64 (t.kind : Int), .string ⟨t.text.toArray⟩, .int .i64 (t.n : Int), .int .i64 (t.pos : Int)] 40)).drew.heap[b]? = some (.cells (pcells E n s) 67 (0, 0))) := blk_alloc HBK.out _
  have HK3 : Hid ((V1.alloc (.cells #[.int .i64 (t.kind : Int), .string ⟨t.text.toArray⟩, .int .i64 (t.n : Int), .int .i64 (t.pos : Int)] 40)).drew.heap[V1.heap.size]? = some (.cells #[.int .i64 (t.kind : Int), .string ⟨t.text.toArray⟩, .int .i64 (t.n : Int), .int .i64 (t.pos : Int)] 40 (0, 0))) := blk_newn (w := V1) rfl
  have HA3 := Lib.hid ((HA1.out.alloc (.cells #[.int .i64 (t.kind : Int), .string ⟨t.text.toArray⟩, .int .i64 (t.n : Int), .int .i64 (t.pos : Int)] 40)).drew)
  clear c0 c1 q0 q1 q2 q3 hT2 HT1
  generalize (V1.alloc (.cells #[.int .i64 (t.kind : Int), .string ⟨t.text.toArray⟩, .int .i64 (t.n : Int), .int .i64 (t.pos : Int)] 40)).drew = V2 at *
  have c1 : V2.cell? ⟨b, 1, none⟩ = some (.int .i64 (n : Int)) := cell_of_blk HB3.out 1
  have c3 : V2.cell? ⟨b, 3, none⟩ = some (.int .i64 (s.items : Int)) := cell_of_blk HB3.out 3
  have f1 : V2.frozen? ⟨b, 1, none⟩ = false := froz_of_blk HB3.out 1
  have f3 : V2.frozen? ⟨b, 3, none⟩ = false := froz_of_blk HB3.out 3
  have t1 : V2.cell? ⟨V1.heap.size, 1, none⟩ = some (.string ⟨t.text.toArray⟩) := cell_of_blk HK3.out 1
  have c4 : V2.cell? ⟨b, 4, none⟩ = some (.int .i64 (s.err : Int)) := cell_of_blk HB3.out 4
  have c5 : V2.cell? ⟨b, 5, none⟩ = some (.int .i64 (atOf E.size s : Int)) := cell_of_blk HB3.out 5
  have f4 : V2.frozen? ⟨b, 4, none⟩ = false := froz_of_blk HB3.out 4
  have f5 : V2.frozen? ⟨b, 5, none⟩ = false := froz_of_blk HB3.out 5
  have t3 : V2.cell? ⟨V1.heap.size, 3, none⟩ = some (.int .i64 (t.pos : Int)) := cell_of_blk HK3.out 3
  have HFAR : Hid (∀ i j v, (V2.setCell ⟨b, i, none⟩ v).cell? ⟨V1.heap.size, j, none⟩ = V2.cell? ⟨V1.heap.size, j, none⟩) := fun i j v => far_blk (by omega)
  have HFAR2 : Hid (∀ i i' j v v', ((V2.setCell ⟨b, i, none⟩ v).setCell ⟨b, i', none⟩ v').cell? ⟨V1.heap.size, j, none⟩ = V2.cell? ⟨V1.heap.size, j, none⟩) := fun i i' j v v' => (far_blk (by omega)).trans (far_blk (by omega))
  have h600 : ((s.items : Int) == 600) = true := beq_iff_eq.2 (by omega)
  have hi6 := HA3.out.1.2.1
  go_wp2_with fail
  go_region_held3 (fun w' => w'.cell? ⟨V1.heap.size, 3, none⟩ = some (.int .i64 (t.pos : Int))) (first | assumption | exact t3 | exact (HFAR.out _ _ _).trans t3 | exact ((HFAR2.out _ _ _ _ _).trans t3)) (fail)
  all_goals
    have hfr : Fr (fun k => k = b) V2 ((V2.setCell ⟨b, 4, none⟩ (.int .i64 3)).setCell ⟨b, 5, none⟩ (.int .i64 (t.pos : Int))).drew := (((Fr.refl _ _).setb 4 _).setb 5 _).drew
    have hpw : PW E b { s with err := 3 } ((V2.setCell ⟨b, 4, none⟩ (.int .i64 3)).setCell ⟨b, 5, none⟩ (.int .i64 (t.pos : Int))).drew := mod_PW HA3.out.1 hfr (by show s.items ≤ 600; omega) (by omega) HN2.out (set_err HB3.out 3 t.pos { s with err := 3 } rfl rfl HAT.out)
    have HA2 : Hid (After E b { s with err := 3 } W ((V2.setCell ⟨b, 4, none⟩ (.int .i64 3)).setCell ⟨b, 5, none⟩ (.int .i64 (t.pos : Int))).drew) := ⟨hpw, HA3.out.2.trans hfr⟩
    have HR2 : Hid (IB W.heap.size flat0 nil nil nil nil ((V2.setCell ⟨b, 4, none⟩ (.int .i64 3)).setCell ⟨b, 5, none⟩ (.int .i64 (t.pos : Int))).drew) := hfr.blk HR3.out (by omega)
    clear hfr hpw c1 c3 f1 f3 t1 hlk c4 c5 f4 f5 t3 HFAR HFAR2 HA3 HB3 HK3 HR3
    generalize ((V2.setCell ⟨b, 4, none⟩ (.int .i64 3)).setCell ⟨b, 5, none⟩ (.int .i64 (t.pos : Int))).drew = w2 at *
    obtain ⟨w99, hw99, hA99, hl99, ho99⟩ := item_end HR2.out HA2.out hbl flat0 nil nil nil nil
    have HW99 := Lib.hid hw99; clear hw99
    have HA99 := Lib.hid hA99; clear hA99
    have HL99 := Lib.hid hl99; clear hl99 ho99
    go_wp2_with (first | (refine wpList_build rfl 57 _ rfl #[] ?_ _ (build_zero _) ?_; (simp)) | (refine wpList_store_mid rfl 57 _ _ rfl W.heap.size 0 (icells flat0 nil nil nil nil).toArray rfl rfl (HR2.out.there' _ _ _ _ _) (info_size _ _ _ _ _) (icells_one _ _ _ _ _ ⟨_, _, _, rfl⟩ ⟨_, _, _, rfl⟩ ⟨_, _, _, rfl⟩ ⟨_, _, _, rfl⟩) ?_; rw [HW99.out]))
    exact bodyPost_ret (v := .agg (icells flat0 nil nil nil nil).toArray) (results_cell Tryd.results39 rfl HL99.out) rfl ⟨⟨nil, nil, nil, nil, rfl, FlatOK.nil _ _ _ rfl rfl rfl, RowI.nil _ _⟩, by have hq := HA99.out; rw [hit] at hq; exact hq⟩

/-- The method item, over a table of kinds whose parsers are known. -/
theorem item_any (ws : List (Bytes × Nat)) (es : Array MapEntry) (clock : Nat) (hT : Tab ws es) (E : Env) (b : Nat) (hbody : ∀ x k, ws.lookup x = some k → ∀ s W, PW E b s W → Calls Tryd.prog (fid k) #[.pointer (some ⟨b, 0, none⟩)] W fun e w' => ItemEnd E b (bodyI k s).1 (bodyI k s).2 W e w')
    (s : St) (W : World) (h : PW E b s W) (r : Nat) (hr : W.heap[r]? = some (.map es clock)) (hbr : b < r) :
    Calls Tryd.prog 39 #[.pointer (some ⟨b, 0, none⟩), .map (some r)] W fun e w' => ItemEnd E b (itemI ws s).1 (itemI ws s).2 W e w' := by
  cases hk : isK 1 s with
  | false =>
    have e : itemI ws s = (⟨flat0, []⟩, (fail s).2) := by simp [itemI, bnd, start, hk, ret]
    rw [e]
    exact item_p1 ws es clock E b s W h r hr hbr hk
  | true =>
    obtain ⟨he, t, rs, hrs, _⟩ := isK_err hk
    cases hl : ws.lookup t.text with
    | none =>
      have e : itemI ws s = (⟨flat0, []⟩, (fail s).2) := by simp [itemI, bnd, start, hk, ret, hrs, hl]
      rw [e]
      exact item_p2 ws es clock E b s W h r hr hbr hk t rs hrs (hT.no _ hl)
    | some k =>
      obtain ⟨i, hi⟩ := hT.yes _ _ hl
      by_cases h6 : s.items = 600
      · have e : itemI ws s = (⟨flat0, []⟩, { s with err := 3 }) := by simp [itemI, bnd, start, hk, ret, hrs, hl, h6]
        rw [e]
        exact item_p3 ws es clock E b s W h r hr hbr hk t rs hrs k i hi h6
      · have e : itemI ws s = (⟨{ (bodyI k ⟨rs, s.items + 1, 0⟩).1.flat with pos := t.pos }, (bodyI k ⟨rs, s.items + 1, 0⟩).1.inner⟩, (bodyI k ⟨rs, s.items + 1, 0⟩).2) := by simp [itemI, bnd, start, hk, ret, hrs, hl, h6]
        rw [e]
        exact item_p4 ws es clock E b s W h r hr hbr hk t rs hrs k i hi h6 (hT.ent _ _ hl) (hbody _ _ hl)
end Go.Proofs.YtfaflipphkoiiaaDoor.Pr
