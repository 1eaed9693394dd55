/-
  The walk of the statement ParserJoins: it returns true for every two texts.
-/
import Derived.Test.YtfaflipphkoiiaaDoorParCount
import Derived.Test.YtfaflipphkoiiaaDoorParSame
import Derived.Test.YtfaflipphkoiiaaDoorParHead
import Derived.OwnWalk
import Derived.IntWalk
import Derived.Deep.AppendLies
import Derived.Deep.AppendSrc
namespace Go.Proofs.YtfaflipphkoiiaaDoor
open Go.RowKit Mem Pr
open Lx (Tok bs bs_length own_keep)
set_option linter.unusedVariables false

theorem count_items' (l : List Pr.Item) (v : Value) (w : World) (hv : VItems w l v) (hb : count l ≤ 1000000) : Calls Tryd.prog 16 #[v] w fun e w' => e = .returned (.int .i64 (count l : Int)) ∧ w' = w :=
  (count_items l v w hv hb).mono fun _ _ ⟨h1, h2⟩ => ⟨h1, h2.symm⟩
/-- Parse, with what it returns left aside. -/
theorem parse_e (s : ByteArray) (w : World) (hs : s.size ≤ 9223372036854775807) (hw : Wks w) :
    Calls Tryd.prog 11 #[.string s] w fun e w' => (∃ n c k A m cap pe pp, e = .returned (.tuple #[.agg (srcells n c k (.slice A m cap)).toArray, .int .i64 pe, .int .i64 pp])) ∧ Below w.heap.size w w' := by
  cases h : parse (bs s) with
  | error x =>
    obtain ⟨er, p⟩ := x
    exact (parse_no s w hs hw er p h).mono fun e w' ⟨he, hb⟩ => ⟨⟨_, _, _, _, _, _, _, _, he⟩, hb⟩
  | ok src =>
    refine (parse_okv s w hs hw src h).mono ?_
    rintro e w' ⟨⟨si, he, hv⟩, hb⟩
    obtain ⟨A, cap, rfl, _⟩ := hv.form
    exact ⟨⟨_, _, _, _, _, _, _, _, he⟩, hb⟩
/-- No more than 600 items begin. -/
theorem Built.lim {α : Type} {m : M α} (h : Built m) : ∀ s, s.items ≤ 600 → (m s).2.items ≤ 600 := by
  induction h with
  | ret a => intro s h; exact h
  | bnd h hf ih ihf => intro s hs; exact ihf _ _ (ih s hs)
  | fail => intro s h; unfold Pr.fail; simp only; split <;> exact h
  | acc x => intro s h; unfold Pr.acc; split <;> exact h
  | opt k => intro s h; unfold Pr.opt; split <;> exact h
  | good => intro s h; exact h
  | long hf h ih => intro s hs; exact ih _ s hs
  | start ws =>
    intro s h
    have hf : (Pr.fail s).2.items ≤ 600 := by unfold Pr.fail; simp only; split <;> exact h
    unfold Pr.start
    split
    · split
      · exact h
      · split
        · exact hf
        · split
          · exact h
          · show s.items + 1 ≤ 600; omega
    · exact hf
theorem items_lim : ∀ n (s : St), s.items ≤ 600 → (itemsMore n s).2.items ≤ 600 := by
  intro n
  induction n with
  | zero => intro s h; exact h
  | succ n ih =>
    intro s h
    by_cases he : s.err ≠ 0 ∨ s.rest = []
    · rw [itemsMore_end _ _ he]; exact h
    · have he1 : s.err = 0 := by by_cases h0 : s.err = 0; exact h0; exact absurd (.inl h0) he
      rw [itemsMore_succ _ _ he1 (fun h0 => he (.inr h0))]
      exact ih _ (Built.lim Built.item s h)
theorem parse_count {x : Bytes} {A : Pr.Source} (h : parse x = .ok A) : count A.items ≤ 600 := by
  obtain ⟨ts, hl, hs, he⟩ := parse_inv h
  have hk := Like0.header.1 ⟨ts, 0, 0⟩
  have hse := source_eq ⟨ts, 0, 0⟩
  generalize header ⟨ts, 0, 0⟩ = H at *
  rw [hse] at hs he
  simp only at hs he
  have hc := items_count _ _ he
  have hlim := items_lim (H.2.rest.length + 1) H.2 (by rw [hk]; show 0 ≤ 600; omega)
  rw [hc, hk] at hlim
  rw [← hs]
  simp only at hlim ⊢
  omega
theorem bs_join (a b : ByteArray) (k : Nat) : bs (a ++ ⟨#[10]⟩ ++ b.extract k b.size) = bs a ++ 10 :: (bs b).drop k := by
  have ha : ∀ x y : ByteArray, bs (x ++ y) = bs x ++ bs y := fun x y => by simp [bs, ByteArray.data_append]
  rw [ha, ha, Lx.bs_extract]
  have e : ((bs b).drop k).take (b.size - k) = (bs b).drop k := by apply List.take_of_length_le; rw [List.length_drop, bs_length]; omega
  rw [e]
  simp [bs]

theorem flatten_at : ∀ (rows : List (List Value)) (h33 : ∀ r ∈ rows, r.length = 33) (j : Nat) (u : Value), rows.flatten[j]? = some u → ∃ r, rows[j / 33]? = some r ∧ r[j % 33]? = some u
  | [], _, j, u, h => by simp at h
  | r :: rows, h33, j, u, h => by
    rw [List.flatten_cons] at h
    have hl := h33 r (by simp)
    by_cases hj : j < 33
    · rw [List.getElem?_append_left (by omega)] at h
      rw [Nat.div_eq_of_lt hj, Nat.mod_eq_of_lt hj]
      exact ⟨r, rfl, h⟩
    · rw [List.getElem?_append_right (by omega), hl] at h
      obtain ⟨r', h1, h2⟩ := flatten_at rows (fun r hr => h33 r (by simp [hr])) (j - 33) u h
      refine ⟨r', ?_, ?_⟩
      · rw [show j / 33 = (j - 33) / 33 + 1 by omega]; exact h1
      · rw [show j % 33 = (j - 33) % 33 by omega]; exact h2
/-- 'append(v, vs...)' onto a row that the call owns, from a row that is read. -/
theorem run_append_row {w : World} {base : Nat} {zv : Value} {i0 : TypeInfo} (hi : Tryd.prog.info? 57 = some i0) (hz0 : i0.zero = some zv) (hz1 : i0.size = 33) (hz2 : i0.bytes = 368) (hz33 : zv.cells.size = 33) (ty : TypeId) {g n cap : Nat} {xs : List Value} (hown : w.ownsRow base 57 33 (.slice (some ⟨g, 0, none⟩) n cap) n xs)
    {vs : Value} {rows : List (List Value)} (hrow : Row w vs 33 rows) (h33 : ∀ r ∈ rows, r.length = 33) (h1 : ∀ r ∈ rows, ∀ u ∈ r, u.oneCell' = true) (hb : n + rows.length ≤ 1000000) (hbase : base ≤ w.heap.size) :
    ∃ g' cap' w', (Builtin.append_ #[25, 25] ty #[.slice (some ⟨g, 0, none⟩) n cap, vs]).run Tryd.prog w = .ok (.slice (some ⟨g', 0, none⟩) (n + rows.length) cap') w' ∧
      w'.ownsRow base 57 33 (.slice (some ⟨g', 0, none⟩) (n + rows.length) cap') (n + rows.length) (xs ++ rows.flatten) ∧ w.grownBy w' (some g) := by
  obtain ⟨A, c, rfl, hc, hr⟩ := hrow
  by_cases hn : A = none ∧ rows = []
  · obtain ⟨rfl, rfl⟩ := hn
    have := run_append_room_src (P := Tryd.prog) w 25 25 ty 57 i0 Tryd.underlying25 hi g 0 n cap (.slice none 0 c) 0 [] (Src.ofNil (P := Tryd.prog) w Tryd.underlying25 c) (by
      rcases hown.2 with ⟨h, _⟩ | ⟨g', cap', cur, h, _, _, h2, _⟩
      · cases h
      · injection h with _ _ h3; omega) (fun j h => by simp at h) (fun j h => by simp at h)
    refine ⟨g, cap, w, this, ?_, ⟨rfl, rfl, rfl, Nat.le_refl _, fun _ _ _ => rfl⟩⟩
    simpa using hown
  · have hA : ∃ ad, A = some ad ∧ ∀ j u, rows.flatten[j]? = some u → w.cell? (ad.add j) = some u := by
      rcases hr with rfl | ⟨g', o, rfl, hg, hr⟩
      · cases A with
        | none => exact absurd ⟨rfl, rfl⟩ hn
        | some ad => exact ⟨ad, rfl, fun j u h => by simp at h⟩
      · refine ⟨_, rfl, fun j u hj => ?_⟩
        rw [Addr.add_mid]
        obtain ⟨r, h5, h6⟩ := flatten_at rows h33 j u hj
        have := hr _ _ h5 _ _ h6
        rw [show o + j / 33 * 33 + j % 33 = o + j by omega] at this
        exact this
    obtain ⟨ad, rfl, hcells⟩ := hA
    have hlen : rows.flatten.length = rows.length * 33 := by
      clear hr hc hcells hn hb
      induction rows with
      | nil => rfl
      | cons r rows ih =>
        rw [List.flatten_cons, List.length_append, ih (fun r hr => h33 r (by simp [hr])) (fun r hr => h1 r (by simp [hr])), h33 r (by simp), List.length_cons]
        omega
    obtain ⟨v', w', hrun, h2, h3, h4, h5⟩ := run_append_own_at (P := Tryd.prog) w base 25 ty 57 i0 zv 33 368 Tryd.underlying25 hi hz0 hz1 hz2 hz33 (by decide) (.slice (some ⟨g, 0, none⟩) n cap) n xs hown ad rows.length c rows.flatten hlen hcells (fun u hu => by
      obtain ⟨r, hr1, hr2⟩ := List.mem_flatten.1 hu
      exact h1 r hr1 u hr2) (by unfold maxLen; omega) (by omega) hbase
    rcases h2.2 with ⟨h6, _⟩ | ⟨g', cap', cur, h6, _⟩
    · have := (h4.1 h6).1
      cases this
    · subst h6
      exact ⟨g', cap', w', hrun, h2, h3⟩
/-- The same at a step of a region that draws its order. -/
theorem step_append_row {w : World} {base : Nat} {zv : Value} {i0 : TypeInfo} (hi : Tryd.prog.info? 57 = some i0) (hz0 : i0.zero = some zv) (hz1 : i0.size = 33) (hz2 : i0.bytes = 368) (hz33 : zv.cells.size = 33) {ops : Array Oper} {o : Oper} {a : Act} {K : Act → World → Prop} {Q : Exit → Act → World → Prop} {E : Prop} (hgd : o.guard = none) (s x : Operand)
    (ho : o.op = .call { callee := .builtin .append, args := #[s, x], argTypes := #[25, 25] }) {g n cap : Nat} {xs : List Value} (hs : a.eval s = .slice (some ⟨g, 0, none⟩) n cap) (hown : w.ownsRow base 57 33 (.slice (some ⟨g, 0, none⟩) n cap) n xs)
    {vs : Value} {rows : List (List Value)} (hx : a.eval x = vs) (hrow : Row w vs 33 rows) (h33 : ∀ r ∈ rows, r.length = 33) (h1 : ∀ r ∈ rows, ∀ u ∈ r, u.oneCell' = true) (hb : n + rows.length ≤ 1000000) (hbase : base ≤ w.heap.size)
    (h : ∀ g' cap' w', w'.ownsRow base 57 33 (.slice (some ⟨g', 0, none⟩) (n + rows.length) cap') (n + rows.length) (xs ++ rows.flatten) → w.grownBy w' (some g) → K (a.put o.dst (.slice (some ⟨g', 0, none⟩) (n + rows.length) cap')) w') :
    if Region.wanted o (yielded ops a.tmps) = true then Oper.wp Tryd.prog o a w K Q else E := by
  have hw : Region.wanted o (yielded ops a.tmps) = true := by simp [Region.wanted, hgd]
  rw [if_pos hw]
  obtain ⟨g', cap', w', hr, h2, h3⟩ := run_append_row hi hz0 hz1 hz2 hz33 o.type hown hrow h33 h1 hb hbase
  unfold Oper.wp execOp
  simp only [ho, resolve, invoke, builtin, Sem.run_bind, Sem.run_pure, Result.andThen_ok, List.map_toArray, List.map_cons, List.map_nil, hs, hx, hr]
  exact h g' cap' w' h2 h3
def ic (p : Pr.Item × Sl) : List Value := icells p.1.flat p.2.1 p.2.2.1 p.2.2.2.1 p.2.2.2.2
theorem VItems.rows {w : World} {l : List Pr.Item} {v : Value} (h : VItems w l v) : ∃ z : List (Pr.Item × Sl), z.map Prod.fst = l ∧ Row w v 33 (z.map ic) ∧ ∀ p ∈ z, VFlat w p.1.flat p.2.1 p.2.2.1 p.2.2.2.1 ∧ VInner w p.1.inner p.2.2.2.2 := by
  obtain ⟨vs, hl, hr, hf⟩ := h
  exact ⟨l.zip vs, List.map_fst_zip (by omega), hr, hf⟩
theorem zip_back {α β : Type} : ∀ z : List (α × β), (z.map Prod.fst).zip (z.map Prod.snd) = z
  | [] => rfl
  | p :: z => by simp [zip_back z]
theorem VItems.of_rows {w : World} {z : List (Pr.Item × Sl)} {v : Value} (hr : Row w v 33 (z.map ic)) (hf : ∀ p ∈ z, VFlat w p.1.flat p.2.1 p.2.2.1 p.2.2.2.1 ∧ VInner w p.1.inner p.2.2.2.2) : VItems w (z.map Prod.fst) v := by
  refine ⟨z.map Prod.snd, by simp, ?_, ?_⟩
  · rw [zip_back]; exact hr
  · rw [zip_back]; exact hf
theorem ic_33 (z : List (Pr.Item × Sl)) : ∀ r ∈ z.map ic, r.length = 33 := by
  intro r hr
  obtain ⟨p, _, rfl⟩ := List.mem_map.1 hr
  rfl
theorem ic_one {w : World} {z : List (Pr.Item × Sl)} (hf : ∀ p ∈ z, VFlat w p.1.flat p.2.1 p.2.2.1 p.2.2.2.1 ∧ VInner w p.1.inner p.2.2.2.2) : ∀ r ∈ z.map ic, ∀ u ∈ r, u.oneCell' = true := by
  intro r hr u hu
  obtain ⟨p, hp, rfl⟩ := List.mem_map.1 hr
  obtain ⟨h1, h2⟩ := hf p hp
  have := icells_one p.1.flat p.2.1 p.2.2.1 p.2.2.2.1 p.2.2.2.2 h1.1.form h1.2.1.form h1.2.2.form h2.form
  exact (Array.all_eq_true_iff_forall_mem.1 this) u (by unfold ic at hu; simpa using hu)

theorem own_new (u : World) : (u.alloc (.cells #[] 57)).drew.ownsRow u.heap.size 57 33 (.slice (some ⟨u.heap.size, 0, none⟩) 0 0) 0 [] :=
  ⟨rfl, .inr ⟨u.heap.size, 0, #[], rfl, Nat.le_refl _, blk_newn rfl, Nat.le_refl _, by unfold maxLen; omega, rfl, rfl⟩⟩
theorem below_new (u : World) : Below u.heap.size u (u.alloc (.cells #[] 57)).drew := below_drewN ((Below.refl _ _).alloc (Nat.le_refl _) _) 1
theorem size_new (u : World) : u.heap.size ≤ (u.alloc (.cells #[] 57)).drew.heap.size := (below_new u).size
/-- The two trees in memory. -/
structure JW (w : World) (p q : Nat) (A B : Pr.Source) (va vb : Value) (u : World) : Prop where
  sa : SB p A.name A.frm A.days va u
  sb : SB q B.name B.frm B.days vb u
  va : VItems u A.items va
  vb : VItems u B.items vb
  bl : Below w.heap.size w u
theorem JW.below {w : World} {p q : Nat} {A B : Pr.Source} {va vb : Value} {u u' : World} (h : JW w p q A B va vb u) (hb : Below u.heap.size u u') : JW w p q A B va vb u' :=
  ⟨(hb.block _ (lt_of_blk h.sa)).trans h.sa, (hb.block _ (lt_of_blk h.sb)).trans h.sb, h.va.below hb, h.vb.below hb, h.bl.trans (hb.mono h.bl.size)⟩

set_option maxRecDepth 100000 in
set_option maxHeartbeats 4000000 in
theorem walk_ParserJoins (s : ByteArray) (hs : s.size ≤ maxLen) (o : ByteArray) (ho : o.size ≤ maxLen) (w : World) (hw : Wks w) :
    Calls Tryd.prog 5 #[.string s, .string o] w fun e w' => e = .returned (.bool true) ∧ Below w.heap.size w w' := by
  unfold maxLen at hs ho
  have HW := Lib.hid hw; clear hw
  have hbig : 2000 < s.size ∨ (¬ 2000 < s.size ∧ 2000 < o.size) ∨ (¬ 2000 < s.size ∧ ¬ 2000 < o.size) := by omega
  rcases hbig with h3 | ⟨h3, h4⟩ | ⟨h3, h4⟩
  · go_enter Tryd.func5, Tryd.ntmps5
    go_wp2_with fail
    refine (head_any _ HW.out).mono ?_
    rintro e w1 ⟨rfl, hb1⟩
    have HB1 := Lib.hid hb1; clear hb1
    go_wp2_with fail
    go_ret
    exact ⟨rfl, HB1.out⟩
  · go_enter Tryd.func5, Tryd.ntmps5
    go_wp2_with fail
    refine (head_any _ HW.out).mono ?_
    rintro e w1 ⟨rfl, hb1⟩
    have HB1 := Lib.hid hb1; clear hb1
    go_wp2_with fail
    go_ret
    exact ⟨rfl, HB1.out⟩
  · cases hla : parse (bs s) with
    | error x =>
      obtain ⟨er, p⟩ := x
      have hne : er ≠ 0 := parse_err_ne hla
      have be : ((er : Int) != 0) = true := by rw [bne_iff_ne]; omega
      have HLA := Lib.hid hla; clear hla
      go_enter Tryd.func5, Tryd.ntmps5
      go_wp2_with fail
      refine (head_any _ HW.out).mono ?_
      rintro e w1 ⟨rfl, hb1⟩
      have HB1 := Lib.hid hb1; clear hb1
      go_wp2_with fail
      refine (parse_no s _ (by omega) (HW.out.below HB1.out) er p HLA.out).mono ?_
      rintro e w2 ⟨rfl, hb2⟩
      have HB2 := Lib.hid (HB1.out.trans (hb2.mono HB1.out.size)); clear hb2 HB1
      have HB3 : Hid (Below w.heap.size w (w2.alloc (.cells (srcells [] civ0 0 Pr.nil).toArray 27))) := HB2.out.alloc HB2.out.size _
      go_upto_region 5 with (refine wpList_store_new rfl 27 _ _ rfl rfl (srcells [] civ0 0 Pr.nil).toArray rfl info_src (srcells_one _ _ _ _ ⟨_, _, _, rfl⟩) (by rfl) ?_)
      generalize (w2.alloc (.cells (srcells [] civ0 0 Pr.nil).toArray 27)) = u3 at *
      go_wp2_with fail
      refine (parse_e o _ (by omega) (HW.out.below HB3.out)).mono ?_
      rintro e w4 ⟨⟨n', c', k', A', m', cap', pe, pp, rfl⟩, hb4⟩
      have HB4 := Lib.hid (HB3.out.trans (hb4.mono HB3.out.size)); clear hb4
      have HB5 : Hid (Below w.heap.size w (w4.alloc (.cells (srcells n' c' k' (.slice A' m' cap')).toArray 27))) := HB4.out.alloc HB4.out.size _
      go_upto_region 6 with (refine wpList_store_new rfl 27 _ _ rfl rfl (srcells n' c' k' (.slice A' m' cap')).toArray rfl info_src (srcells_one _ _ _ _ ⟨_, _, _, rfl⟩) (by rfl) ?_)
      generalize (w4.alloc (.cells (srcells n' c' k' (.slice A' m' cap')).toArray 27)) = u5 at *
      go_quiet (fail)
      go_wp2_with fail
      go_ret
      exact ⟨rfl, below_drewN HB5.out _⟩
    | ok A =>
      have hca := parse_count hla
      cases hlb : parse (bs o) with
      | error x =>
        obtain ⟨er, p⟩ := x
        have hne : er ≠ 0 := parse_err_ne hlb
        have be : ((er : Int) != 0) = true := by rw [bne_iff_ne]; omega
        have HLA := Lib.hid hla; have HLB := Lib.hid hlb; clear hla hlb
        go_enter Tryd.func5, Tryd.ntmps5
        go_wp2_with fail
        refine (head_any _ HW.out).mono ?_
        rintro e w1 ⟨rfl, hb1⟩
        have HB1 := Lib.hid hb1; clear hb1
        go_wp2_with fail
        refine (parse_okv s _ (by omega) (HW.out.below HB1.out) A HLA.out).mono ?_
        rintro e w2 ⟨⟨si, rfl, hv⟩, hb2⟩
        obtain ⟨A1, c1, rfl, _⟩ := hv.form
        have HB2 := Lib.hid (HB1.out.trans (hb2.mono HB1.out.size)); clear hb2 HB1
        have HB3 : Hid (Below w.heap.size w (w2.alloc (.cells (srcells A.name A.frm A.days (.slice A1 A.items.length c1)).toArray 27))) := HB2.out.alloc HB2.out.size _
        have HS3 : Hid (SB w2.heap.size A.name A.frm A.days (.slice A1 A.items.length c1) (w2.alloc (.cells (srcells A.name A.frm A.days (.slice A1 A.items.length c1)).toArray 27))) := blk_newn rfl
        have HV3 := Lib.hid (hv.below ((Below.refl _ w2).alloc (Nat.le_refl _) (.cells (srcells A.name A.frm A.days (.slice A1 A.items.length c1)).toArray 27)))
        clear hv HB2
        go_upto_region 5 with (refine wpList_store_new rfl 27 _ _ rfl rfl (srcells A.name A.frm A.days (.slice A1 A.items.length c1)).toArray rfl info_src (srcells_one _ _ _ _ ⟨_, _, _, rfl⟩) (by rfl) ?_)
        generalize (w2.alloc (.cells (srcells A.name A.frm A.days (.slice A1 A.items.length c1)).toArray 27)) = u3 at *
        go_wp2_with fail
        refine (parse_no o _ (by omega) (HW.out.below HB3.out) er p HLB.out).mono ?_
        rintro e w4 ⟨rfl, hb4⟩
        have HB4 := Lib.hid (HB3.out.trans (hb4.mono HB3.out.size)); clear hb4
        have HB5 : Hid (Below w.heap.size w (w4.alloc (.cells (srcells [] civ0 0 Pr.nil).toArray 27))) := HB4.out.alloc HB4.out.size _
        go_upto_region 6 with (refine wpList_store_new rfl 27 _ _ rfl rfl (srcells [] civ0 0 Pr.nil).toArray rfl info_src (srcells_one _ _ _ _ ⟨_, _, _, rfl⟩) (by rfl) ?_)
        generalize (w4.alloc (.cells (srcells [] civ0 0 Pr.nil).toArray 27)) = u5 at *
        go_quiet (fail)
        go_wp2_with fail
        go_ret
        exact ⟨rfl, below_drewN HB5.out _⟩
      | ok B =>
        have hcb := parse_count hlb
        by_cases hc : 600 < count A.items + count B.items
        · have HLA := Lib.hid hla; have HLB := Lib.hid hlb
          clear hla hlb
          have dc : decide ((600 : Int) < (count A.items : Int) + (count B.items : Int)) = true := by simp; omega
          go_enter Tryd.func5, Tryd.ntmps5
          go_wp2_with fail
          refine (head_any _ HW.out).mono ?_
          rintro e w1 ⟨rfl, hb1⟩
          have HB1 := Lib.hid hb1; clear hb1
          go_wp2_with fail
          refine (parse_okv s _ (by omega) (HW.out.below HB1.out) A HLA.out).mono ?_
          rintro e w2 ⟨⟨si, rfl, hv⟩, hb2⟩
          obtain ⟨A1, c1, rfl, _⟩ := hv.form
          have HB2 := Lib.hid (HB1.out.trans (hb2.mono HB1.out.size)); clear hb2 HB1
          have HB3 : Hid (Below w.heap.size w (w2.alloc (.cells (srcells A.name A.frm A.days (.slice A1 A.items.length c1)).toArray 27))) := HB2.out.alloc HB2.out.size _
          have HS3 : Hid (SB w2.heap.size A.name A.frm A.days (.slice A1 A.items.length c1) (w2.alloc (.cells (srcells A.name A.frm A.days (.slice A1 A.items.length c1)).toArray 27))) := blk_newn rfl
          have HV3 := Lib.hid (hv.below ((Below.refl _ w2).alloc (Nat.le_refl _) (.cells (srcells A.name A.frm A.days (.slice A1 A.items.length c1)).toArray 27)))
          clear hv HB2
          go_upto_region 5 with (refine wpList_store_new rfl 27 _ _ rfl rfl (srcells A.name A.frm A.days (.slice A1 A.items.length c1)).toArray rfl info_src (srcells_one _ _ _ _ ⟨_, _, _, rfl⟩) (by rfl) ?_)
          generalize (w2.alloc (.cells (srcells A.name A.frm A.days (.slice A1 A.items.length c1)).toArray 27)) = u3 at *
          go_wp2_with fail
          refine (parse_okv o _ (by omega) (HW.out.below HB3.out) B HLB.out).mono ?_
          rintro e w4 ⟨⟨si, rfl, hv⟩, hb4⟩
          obtain ⟨A2, c2, rfl, _⟩ := hv.form
          have hbb : Below u3.heap.size u3 (w4.alloc (.cells (srcells B.name B.frm B.days (.slice A2 B.items.length c2)).toArray 27)) := hb4.alloc hb4.size _
          have HB5 : Hid (Below w.heap.size w (w4.alloc (.cells (srcells B.name B.frm B.days (.slice A2 B.items.length c2)).toArray 27))) := HB3.out.trans (hbb.mono HB3.out.size)
          have HS5 : Hid (SB w2.heap.size A.name A.frm A.days (.slice A1 A.items.length c1) (w4.alloc (.cells (srcells B.name B.frm B.days (.slice A2 B.items.length c2)).toArray 27))) := (hbb.block _ (lt_of_blk HS3.out)).trans HS3.out
          have HT5 : Hid (SB w4.heap.size B.name B.frm B.days (.slice A2 B.items.length c2) (w4.alloc (.cells (srcells B.name B.frm B.days (.slice A2 B.items.length c2)).toArray 27))) := blk_newn rfl
          have HV5 := Lib.hid (HV3.out.below hbb)
          have HU5 := Lib.hid (hv.below ((Below.refl _ w4).alloc (Nat.le_refl _) (.cells (srcells B.name B.frm B.days (.slice A2 B.items.length c2)).toArray 27)))
          clear hv HB3 HS3 HV3 hbb hb4
          go_upto_region 6 with (refine wpList_store_new rfl 27 _ _ rfl rfl (srcells B.name B.frm B.days (.slice A2 B.items.length c2)).toArray rfl info_src (srcells_one _ _ _ _ ⟨_, _, _, rfl⟩) (by rfl) ?_)
          generalize (w4.alloc (.cells (srcells B.name B.frm B.days (.slice A2 B.items.length c2)).toArray 27)) = u5 at *
          have x5 : u5.cell? ⟨w2.heap.size, 5, none⟩ = some (.slice A1 A.items.length c1) := cell_of_blk HS5.out 5
          have y5 : u5.cell? ⟨w4.heap.size, 5, none⟩ = some (.slice A2 B.items.length c2) := cell_of_blk HT5.out 5
          have hs0 : IntKind.i64.wrap ((count A.items : Int) + (count B.items : Int)) = (count A.items : Int) + (count B.items : Int) := IntWalk.i64_in _ (by omega)
          go_quiet ((go_at_call 16; first | exact Calls.quiet_of_same (count_items' A.items _ _ (HV5.out.below (below_drewN (Below.refl _ _) _)) (by omega)) | exact Calls.quiet_of_same (count_items' B.items _ _ (HU5.out.below (below_drewN (Below.refl _ _) _)) (by omega))))
          go_wp2_with fail
          go_ret
          exact ⟨rfl, below_drewN HB5.out _⟩
        · obtain ⟨ts, i, hi, hl, k1, k2, k3, C, hC, e1, e2, e3, hE⟩ := joins_plain (by rw [bs_length]; omega) (by rw [bs_length]; omega) hla hlb (by omega)
          rw [bs_length] at k3
          rw [← bs_join] at hC
          have HLA := Lib.hid hla; have HLB := Lib.hid hlb; have HL := Lib.hid hl; have HC := Lib.hid hC
          have HK1 := Lib.hid k1; have HK2 := Lib.hid k2; have HE := Lib.hid hE
          have HE1 := Lib.hid e1; have HE2 := Lib.hid e2; have HE3 := Lib.hid e3
          clear hla hlb hl hC k1 k2 hE e1 e2 e3
          have dc : decide ((600 : Int) < (count A.items : Int) + (count B.items : Int)) = false := by simp; omega
          go_enter Tryd.func5, Tryd.ntmps5
          go_wp2_with fail
          refine (head_any _ HW.out).mono ?_
          rintro e w1 ⟨rfl, hb1⟩
          have HB1 := Lib.hid hb1; clear hb1
          go_wp2_with fail
          refine (parse_okv s _ (by omega) (HW.out.below HB1.out) A HLA.out).mono ?_
          rintro e w2 ⟨⟨si, rfl, hv⟩, hb2⟩
          obtain ⟨A1, c1, rfl, _⟩ := hv.form
          have HB2 := Lib.hid (HB1.out.trans (hb2.mono HB1.out.size)); clear hb2 HB1
          have HB3 : Hid (Below w.heap.size w (w2.alloc (.cells (srcells A.name A.frm A.days (.slice A1 A.items.length c1)).toArray 27))) := HB2.out.alloc HB2.out.size _
          have HS3 : Hid (SB w2.heap.size A.name A.frm A.days (.slice A1 A.items.length c1) (w2.alloc (.cells (srcells A.name A.frm A.days (.slice A1 A.items.length c1)).toArray 27))) := blk_newn rfl
          have HV3 := Lib.hid (hv.below ((Below.refl _ w2).alloc (Nat.le_refl _) (.cells (srcells A.name A.frm A.days (.slice A1 A.items.length c1)).toArray 27)))
          clear hv HB2
          go_upto_region 5 with (refine wpList_store_new rfl 27 _ _ rfl rfl (srcells A.name A.frm A.days (.slice A1 A.items.length c1)).toArray rfl info_src (srcells_one _ _ _ _ ⟨_, _, _, rfl⟩) (by rfl) ?_)
          generalize (w2.alloc (.cells (srcells A.name A.frm A.days (.slice A1 A.items.length c1)).toArray 27)) = u3 at *
          go_wp2_with fail
          refine (parse_okv o _ (by omega) (HW.out.below HB3.out) B HLB.out).mono ?_
          rintro e w4 ⟨⟨si, rfl, hv⟩, hb4⟩
          obtain ⟨A2, c2, rfl, _⟩ := hv.form
          have hbb : Below u3.heap.size u3 (w4.alloc (.cells (srcells B.name B.frm B.days (.slice A2 B.items.length c2)).toArray 27)) := hb4.alloc hb4.size _
          have HB5 : Hid (Below w.heap.size w (w4.alloc (.cells (srcells B.name B.frm B.days (.slice A2 B.items.length c2)).toArray 27))) := HB3.out.trans (hbb.mono HB3.out.size)
          have HS5 : Hid (SB w2.heap.size A.name A.frm A.days (.slice A1 A.items.length c1) (w4.alloc (.cells (srcells B.name B.frm B.days (.slice A2 B.items.length c2)).toArray 27))) := (hbb.block _ (lt_of_blk HS3.out)).trans HS3.out
          have HT5 : Hid (SB w4.heap.size B.name B.frm B.days (.slice A2 B.items.length c2) (w4.alloc (.cells (srcells B.name B.frm B.days (.slice A2 B.items.length c2)).toArray 27))) := blk_newn rfl
          have HV5 := Lib.hid (HV3.out.below hbb)
          have HU5 := Lib.hid (hv.below ((Below.refl _ w4).alloc (Nat.le_refl _) (.cells (srcells B.name B.frm B.days (.slice A2 B.items.length c2)).toArray 27)))
          clear hv HB3 HS3 HV3 hbb hb4
          go_upto_region 6 with (refine wpList_store_new rfl 27 _ _ rfl rfl (srcells B.name B.frm B.days (.slice A2 B.items.length c2)).toArray rfl info_src (srcells_one _ _ _ _ ⟨_, _, _, rfl⟩) (by rfl) ?_)
          generalize (w4.alloc (.cells (srcells B.name B.frm B.days (.slice A2 B.items.length c2)).toArray 27)) = u5 at *
          have x5 : u5.cell? ⟨w2.heap.size, 5, none⟩ = some (.slice A1 A.items.length c1) := cell_of_blk HS5.out 5
          have y5 : u5.cell? ⟨w4.heap.size, 5, none⟩ = some (.slice A2 B.items.length c2) := cell_of_blk HT5.out 5
          have hs0 : IntKind.i64.wrap ((count A.items : Int) + (count B.items : Int)) = (count A.items : Int) + (count B.items : Int) := IntWalk.i64_in _ (by omega)
          go_quiet ((go_at_call 16; first | exact Calls.quiet_of_same (count_items' A.items _ _ (HV5.out.below (below_drewN (Below.refl _ _) _)) (by omega)) | exact Calls.quiet_of_same (count_items' B.items _ _ (HU5.out.below (below_drewN (Below.refl _ _) _)) (by omega))))
          clear x5 y5 hs0
          go_wp2_with fail
          have HJ : Hid (JW w w2.heap.size w4.heap.size A B (.slice A1 A.items.length c1) (.slice A2 B.items.length c2) (u5.drewN nq)) := JW.below ⟨HS5.out, HT5.out, HV5.out, HU5.out, HB5.out⟩ (below_drewN (Below.refl _ _) _)
          clear HS5 HT5 HV5 HU5 HB5
          generalize u5.drewN nq = u6 at *
          refine (items_after o ts i u6 (by omega) HL.out hi HK1.out HK2.out k3).mono ?_
          rintro e w7 ⟨rfl, hb7⟩
          have HJ7 := Lib.hid (HJ.out.below hb7); clear HJ hb7
          obtain ⟨z, hz⟩ : ∃ z, o.extract (ts[i].pos + 1) o.size = z := ⟨_, rfl⟩
          have hzs : z.size ≤ 2000 := by rw [← hz, ByteArray.size_extract]; omega
          rw [hz] at HC ⊢
          clear hz
          go_wp2_with fail
          have hys : (s ++ (⟨#[10]⟩ : ByteArray) ++ z).size ≤ 5000 := by rw [ByteArray.size_append, ByteArray.size_append]; show s.size + 1 + z.size ≤ _; omega
          obtain ⟨y, HY⟩ : ∃ y, Hid (s ++ (⟨#[10]⟩ : ByteArray) ++ z = y) := ⟨_, rfl⟩
          rw [HY.out] at hys HC ⊢
          have hW7 := HW.out.below HJ7.out.bl
          refine (parse_okv y w7 (by omega) hW7 C HC.out).mono ?_
          clear hW7
          rintro e w8 ⟨⟨si, rfl, hv⟩, hb8⟩
          obtain ⟨A3, n3, c3, rfl⟩ := hv.slice
          have HJ9 := Lib.hid (HJ7.out.below (hb8.alloc hb8.size (.cells (srcells C.name C.frm C.days (.slice A3 n3 c3)).toArray 27)))
          have HS9 : Hid (SB w8.heap.size C.name C.frm C.days (.slice A3 n3 c3) (w8.alloc (.cells (srcells C.name C.frm C.days (.slice A3 n3 c3)).toArray 27))) := blk_newn rfl
          have HV9 := Lib.hid (hv.below ((Below.refl _ w8).alloc (Nat.le_refl _) (.cells (srcells C.name C.frm C.days (.slice A3 n3 c3)).toArray 27)))
          clear hv hb8 HJ7
          go_upto_region 9 with (refine wpList_store_new rfl 27 _ _ rfl rfl (srcells C.name C.frm C.days (.slice A3 n3 c3)).toArray rfl info_src (srcells_one _ _ _ _ ⟨_, _, _, rfl⟩) (by rfl) ?_)
          generalize (w8.alloc (.cells (srcells C.name C.frm C.days (.slice A3 n3 c3)).toArray 27)) = u9 at *
          obtain ⟨za, ha1, ha2, ha3⟩ := VItems.rows HJ9.out.va
          obtain ⟨zb, hb1, hb2, hb3⟩ := VItems.rows HJ9.out.vb
          obtain ⟨zv, hzz, hz33⟩ := info_itemz
          obtain ⟨i0, hi0, hz0, hz1, hz2⟩ := info_parts hzz
          have hla : za.length = A.items.length := by rw [← ha1, List.length_map]
          have hlb : zb.length = B.items.length := by rw [← hb1, List.length_map]
          have hna : A.items.length ≤ 600 := by have := count_sum A.items; omega
          have hnb : B.items.length ≤ 600 := by have := count_sum B.items; omega
          have x5 : u9.cell? ⟨w2.heap.size, 5, none⟩ = some (.slice A1 A.items.length c1) := cell_of_blk HJ9.out.sa 5
          have y5 : u9.cell? ⟨w4.heap.size, 5, none⟩ = some (.slice A2 B.items.length c2) := cell_of_blk HJ9.out.sb 5
          have HZ1 := Lib.hid ha1; have HZ2 := Lib.hid ha2; have HZ3 := Lib.hid ha3
          have HY1 := Lib.hid hb1; have HY2 := Lib.hid hb2; have HY3 := Lib.hid hb3
          have HLA' := Lib.hid hla; have HLB' := Lib.hid hlb
          have q1 := lt_of_blk HJ9.out.sa
          have q2 := lt_of_blk HJ9.out.sb
          clear ha1 ha2 ha3 hb1 hb2 hb3 hla hlb hzz HLA HLB HL HC HK1 HK2
          go_region_held3 (fun w' => w'.cell? ⟨w2.heap.size, 5, none⟩ = some (.slice A1 A.items.length c1) ∧ w'.cell? ⟨w4.heap.size, 5, none⟩ = some (.slice A2 B.items.length c2)) (first | go_keep | exact ⟨xb, yb⟩ | exact ⟨xa, ya⟩)
            (first
              | (refine step_append_row (base := u9.heap.size) (g := u9.heap.size) (n := 0) (cap := 0) (xs := []) (rows := za.map ic) hi0 hz0 hz1 hz2 hz33 (by rfl) _ _ (by rfl) (by rfl) (own_new u9) (by rfl) (HZ2.out.below (below_new u9)) (ic_33 za) (ic_one HZ3.out) (by rw [List.length_map, HLA'.out]; omega) (size_new u9) ?_
                 intro g1 k1 wa hown1 hgr1
                 have HBA : Hid (Below u9.heap.size u9 wa) := (below_new u9).grown hgr1 (size_new u9) (fun k hk => by injection hk with hk; omega)
                 have HOA := Lib.hid hown1
                 have xa : wa.cell? ⟨w2.heap.size, 5, none⟩ = some (.slice A1 A.items.length c1) := (HBA.out.cell (p := ⟨w2.heap.size, 5, none⟩) q1).trans x5
                 have ya : wa.cell? ⟨w4.heap.size, 5, none⟩ = some (.slice A2 B.items.length c2) := (HBA.out.cell (p := ⟨w4.heap.size, 5, none⟩) q2).trans y5
                 clear hown1 hgr1)
              | (refine step_append_row (base := u9.heap.size) (g := g1) (n := 0 + (za.map ic).length) (cap := k1) (xs := [] ++ (za.map ic).flatten) (rows := zb.map ic) hi0 hz0 hz1 hz2 hz33 (by rfl) _ _ (by rfl) (by rfl) HOA.out (by rfl) (HY2.out.below HBA.out) (ic_33 zb) (ic_one HY3.out) (by rw [List.length_map, List.length_map, HLA'.out, HLB'.out]; omega) HBA.out.size ?_
                 intro g2 k2 wb hown2 hgr2
                 have HBB : Hid (Below u9.heap.size u9 wb) := HBA.out.grown hgr2 HBA.out.size (fun k hk => (own_lt HOA.out k hk).1)
                 have HOB := Lib.hid hown2
                 have xb : wb.cell? ⟨w2.heap.size, 5, none⟩ = some (.slice A1 A.items.length c1) := (HBB.out.cell (p := ⟨w2.heap.size, 5, none⟩) q1).trans x5
                 have yb : wb.cell? ⟨w4.heap.size, 5, none⟩ = some (.slice A2 B.items.length c2) := (HBB.out.cell (p := ⟨w4.heap.size, 5, none⟩) q2).trans y5
                 clear hown2 hgr2))
          have HI : Hid (VItems wb (A.items ++ B.items) (.slice (some ⟨g2, 0, none⟩) (za.length + zb.length) k2)) := by
            have h := HOB.out
            have hN : 0 + (za.map ic).length + (zb.map ic).length = (za ++ zb).length := by rw [List.length_map, List.length_map, List.length_append]; omega
            have hX : [] ++ (za.map ic).flatten ++ (zb.map ic).flatten = (za ++ zb).flatMap ic := by rw [List.nil_append, List.flatMap_append]; rfl
            rw [hN, hX] at h
            have hr := Row.of_own (f := ic) h (fun p hp => rfl)
            have hz : A.items ++ B.items = (za ++ zb).map Prod.fst := by rw [List.map_append, HZ1.out, HY1.out]
            show VItems wb (A.items ++ B.items) _
            rw [hz, ← List.length_append]
            refine VItems.of_rows hr (fun p hp => ?_)
            rcases List.mem_append.1 hp with hp | hp
            · exact ⟨(HZ3.out p hp).1.below HBB.out, (HZ3.out p hp).2.below HBB.out⟩
            · exact ⟨(HY3.out p hp).1.below HBB.out, (HY3.out p hp).2.below HBB.out⟩
          have HVB := Lib.hid (HV9.out.below HBB.out)
          have HJB := Lib.hid (HJ9.out.below HBB.out)
          have HSB : Hid (SB w8.heap.size A.name A.frm A.days (.slice A3 n3 c3) wb) := by
            have := (HBB.out.block _ (lt_of_blk HS9.out)).trans HS9.out
            rw [HE1.out, HE2.out, HE3.out] at this
            exact this
          clear HOA HOB HBA HBB xa ya xb yb x5 y5 HZ1 HZ2 HZ3 HY1 HY2 HY3 HLA' HLB' HJ9 HS9 HV9
          have x0 : wb.cell? ⟨w2.heap.size, 0, none⟩ = some (.string ⟨A.name.toArray⟩) := cell_of_blk HJB.out.sa 0
          have y0 : wb.cell? ⟨w8.heap.size, 0, none⟩ = some (.string ⟨A.name.toArray⟩) := cell_of_blk HSB.out 0
          have x1 : wb.cell? ⟨w2.heap.size, 1, none⟩ = some (.int .i64 (A.frm.y : Int)) := cell_of_blk HJB.out.sa 1
          have y1 : wb.cell? ⟨w8.heap.size, 1, none⟩ = some (.int .i64 (A.frm.y : Int)) := cell_of_blk HSB.out 1
          have x2 : wb.cell? ⟨w2.heap.size, 2, none⟩ = some (.int .i64 (A.frm.m : Int)) := cell_of_blk HJB.out.sa 2
          have y2 : wb.cell? ⟨w8.heap.size, 2, none⟩ = some (.int .i64 (A.frm.m : Int)) := cell_of_blk HSB.out 2
          have x3 : wb.cell? ⟨w2.heap.size, 3, none⟩ = some (.int .i64 (A.frm.d : Int)) := cell_of_blk HJB.out.sa 3
          have y3 : wb.cell? ⟨w8.heap.size, 3, none⟩ = some (.int .i64 (A.frm.d : Int)) := cell_of_blk HSB.out 3
          have x4 : wb.cell? ⟨w2.heap.size, 4, none⟩ = some (.int .i64 (A.days : Int)) := cell_of_blk HJB.out.sa 4
          have y4 : wb.cell? ⟨w8.heap.size, 4, none⟩ = some (.int .i64 (A.days : Int)) := cell_of_blk HSB.out 4
          have y5 : wb.cell? ⟨w8.heap.size, 5, none⟩ = some (.slice A3 n3 c3) := cell_of_blk HSB.out 5
          have hq := eq_civil (A.frm.y : Int) (A.frm.m : Int) (A.frm.d : Int)
          have HBW := Lib.hid HJB.out.bl
          clear HSB HJB
          go_wp2_with fail
          refine (items_eq false C.items (A.items ++ B.items) _ _ wb HE.out HVB.out HI.out).mono ?_
          rintro e wz ⟨rfl, hbz⟩
          have HBZ : Hid (Below w.heap.size w wz) := HBW.out.trans (hbz.mono HBW.out.size)
          clear hbz
          go_wp2_with fail
          go_ret
          exact ⟨rfl, HBZ.out⟩
end Go.Proofs.YtfaflipphkoiiaaDoor
