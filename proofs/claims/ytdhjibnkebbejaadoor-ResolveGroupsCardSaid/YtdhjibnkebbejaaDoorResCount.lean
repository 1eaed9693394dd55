/-
  What the law's function count returns: how many faults of each error there are.
-/
import Derived.Test.YtdhjibnkebbejaaDoorResSameS
import Derived.Laws.StructEq
import Derived.ChangeKeysEq
namespace Go.Proofs.YtdhjibnkebbejaaDoor.Rs
open Go.RowKit Mem Vw
set_option linter.unusedVariables false
set_option linter.unusedSimpArgs false

def bump (c : List Int) (e : Int) : List Int := if 0 ≤ e ∧ e < 32 then c.set e.toNat (c.getD e.toNat 0 + 1) else c
def cnts (l : List Int) : List Int := l.foldl bump (List.replicate 32 0)
theorem bump_length (c : List Int) (e : Int) : (bump c e).length = c.length := by unfold bump; split <;> simp
theorem bump_get (c : List Int) (e : Int) (hc : c.length = 32) (n : Nat) : (bump c e)[n]? = (c[n]?).map fun x => if (n : Int) = e then x + 1 else x := by
  unfold bump
  by_cases h : 0 ≤ e ∧ e < 32
  · rw [if_pos h]
    have hlt : e.toNat < c.length := by omega
    by_cases hn : e.toNat = n
    · subst hn
      rw [List.getElem?_set_self hlt, List.getElem?_eq_getElem hlt]
      have : ((e.toNat : Nat) : Int) = e := by omega
      simp [this, List.getD, List.getElem?_eq_getElem hlt]
    · rw [List.getElem?_set_ne hn]
      have : ¬ (n : Int) = e := by omega
      simp [this]
  · rw [if_neg h]
    rcases Nat.lt_or_ge n c.length with hn | hn
    · have : ¬ (n : Int) = e := by omega
      simp [this]
    · rw [List.getElem?_eq_none hn]; rfl
theorem bump_comm (c : List Int) (a b : Int) (hc : c.length = 32) : bump (bump c a) b = bump (bump c b) a := by
  apply List.ext_getElem?
  intro n
  rw [bump_get _ _ (by rw [bump_length, hc]), bump_get _ _ hc, bump_get _ _ (by rw [bump_length, hc]), bump_get _ _ hc]
  cases c[n]? with
  | none => rfl
  | some x =>
    simp only [Option.map_some, Option.some.injEq]
    repeat' split
    all_goals omega
theorem fold_length (l : List Int) (c : List Int) : (l.foldl bump c).length = c.length := by
  induction l generalizing c with
  | nil => rfl
  | cons a l ih => rw [List.foldl_cons, ih, bump_length]
theorem cnts_length (l : List Int) : (cnts l).length = 32 := by unfold cnts; rw [fold_length]; rfl
theorem fold_perm {l l' : List Int} (h : l.Perm l') : ∀ c : List Int, c.length = 32 → l.foldl bump c = l'.foldl bump c := by
  induction h with
  | nil => intro c _; rfl
  | cons a _ ih => intro c hc; rw [List.foldl_cons, List.foldl_cons]; exact ih _ (by rw [bump_length, hc])
  | swap a b l => intro c hc; simp only [List.foldl_cons]; rw [bump_comm c b a hc]
  | trans _ _ ih1 ih2 => intro c hc; rw [ih1 c hc, ih2 c hc]
theorem cnts_perm {l l' : List Int} (h : l.Perm l') : cnts l = cnts l' := fold_perm h _ rfl
theorem cnts_snoc (l : List Int) (e : Int) : cnts (l ++ [e]) = bump (cnts l) e := by unfold cnts; rw [List.foldl_append]; rfl
theorem bump_le {c : List Int} {e : Int} {m : Int} (h : ∀ x ∈ c, 0 ≤ x ∧ x ≤ m) (hm : 0 ≤ m) : ∀ x ∈ bump c e, 0 ≤ x ∧ x ≤ m + 1 := by
  unfold bump
  split
  · intro x hx
    rcases List.mem_or_eq_of_mem_set hx with hx | rfl
    · have := h x hx; omega
    · have : ∀ n, 0 ≤ c.getD n 0 ∧ c.getD n 0 ≤ m := by
        intro n
        rcases Nat.lt_or_ge n c.length with hn | hn
        · have := h c[n] (List.getElem_mem hn)
          simpa [List.getD, List.getElem?_eq_getElem hn] using this
        · simp [List.getD, List.getElem?_eq_none hn, hm]
      have := this e.toNat; omega
  · intro x hx; have := h x hx; omega
theorem cnts_le (l : List Int) : ∀ x ∈ cnts l, 0 ≤ x ∧ x ≤ (l.length : Int) := by
  have key : ∀ (l : List Int) (c : List Int) (m : Int), 0 ≤ m → (∀ x ∈ c, 0 ≤ x ∧ x ≤ m) → ∀ x ∈ l.foldl bump c, 0 ≤ x ∧ x ≤ m + (l.length : Int) := by
    intro l
    induction l with
    | nil => intro c m _ h x hx; have := h x hx; simp; omega
    | cons a l ih =>
      intro c m hm h x hx
      have := ih (bump c a) (m + 1) (by omega) (bump_le h hm) x hx
      rw [List.length_cons]; omega
  intro x hx
  have := key l (List.replicate 32 0) 0 (by omega) (fun x hx => by have := List.eq_of_mem_replicate hx; omega) x hx
  omega
/-- What the loop holds. -/
def NRel (fs : List Fault) (W : World) (i : Value) (wr : World) : Prop := ∃ k : Nat, i = .int .i64 (k : Int) ∧ k ≤ fs.length ∧ Hid (wr.heap[W.heap.size]? = some (.cells ((List.replicate 32 (0 : Int)).map nv).toArray 72 (0, 0))) ∧ Hid (wr.heap[W.heap.size + 1]? = some (.cells ((cnts ((fs.take k).map Fault.err)).map nv).toArray 72 (0, 0))) ∧ Hid (Below W.heap.size W wr)
theorem info_32 (l : List Int) (h : l.length = 32) : (Tryd.prog.info? 72).map (·.size) = some (l.map nv).length := by
  rw [List.length_map, h]; kernel_rfl
theorem one_ints (l : List Int) : (l.map nv).toArray.all (·.oneCell') = true := by
  rw [List.all_toArray, List.all_eq_true]
  intro x hx
  obtain ⟨y, _, rfl⟩ := List.mem_map.1 hx
  rfl
set_option maxRecDepth 100000 in
set_option maxHeartbeats 4000000 in
theorem eq_ints (l : List Int) (h : l.length = 32) (W : World) : (binOp .eql 72 (.agg (l.map nv).toArray) (.agg (l.map nv).toArray)).run Tryd.prog W = .ok (.bool true) W := by
  have key : (Op.equalIn 10000 72 (.agg (l.map nv).toArray) (.agg (l.map nv).toArray)).run Tryd.prog W = .ok true W := by
    obtain ⟨i, hi⟩ : ∃ i, Tryd.prog.info? 3 = some i := Option.isSome_iff_exists.1 (by kernel_rfl)
    have hn : Tryd.prog.cellsOf 3 = 1 := by kernel_rfl
    rw [show (10000 : Nat) = 9999 + 1 from rfl, Op.equalIn]
    simp only [Sem.run_bind, run_underlying Tryd.underlying72, Result.andThen_ok, run_sizeOf W hi, hn, Nat.mul_one]
    simp only [Std.Legacy.Range.forIn_eq_forIn_range', Std.Legacy.Range.size, Nat.sub_zero, Nat.add_sub_cancel, Nat.div_one]
    have hj : ∀ j ∈ List.range' 0 32 1, j < l.length := fun j hj => by
      have := (List.mem_range'_1.1 hj).2
      omega
    generalize List.range' 0 32 1 = js at *
    induction js with
    | nil => simp
    | cons j js ih =>
      have hjl := hj j (by simp)
      have hp : (part 3 (l.map nv).toArray j).run Tryd.prog W = .ok (.int .i64 l[j]) W := run_part_plain W (by kernel_rfl) (by simp [hjl, nv])
      simp only [List.forIn_cons, Sem.run_bind, hp, Result.andThen_ok, run_equalIn_int W 9998 3 .i64 .i64 _ _ Tryd.underlying3, beq_self_eq_true, Bool.not_true, Bool.false_eq_true, if_false, Sem.run_pure]
      exact ih (fun j hj' => hj j (by simp [hj']))
  rw [run_eql_struct, key]
  rfl
set_option maxRecDepth 100000 in
set_option maxHeartbeats 4000000 in
theorem count_any (fs : List Fault) (fv : Value) (W : World) (h : Row W fv 2 (fs.map faultv)) (hl : fs.length ≤ 1000000) :
    Calls Tryd.prog 20 #[fv] W fun e w' => e = .returned (.agg ((cnts (fs.map Fault.err)).map nv).toArray) ∧ Below W.heap.size W w' := by
  obtain ⟨A, c, rfl, _, hrow⟩ := h
  rw [List.length_map]
  have HROW := Lib.hid hrow; clear hrow
  obtain ⟨w0, HW0⟩ : ∃ w0, Hid ((W.alloc (.cells ((List.replicate 32 (0 : Int)).map nv).toArray 72)).alloc (.cells ((List.replicate 32 (0 : Int)).map nv).toArray 72) = w0) := ⟨_, rfl⟩
  have HN0 : Hid (NRel fs W (.int .i64 0) w0) := ⟨0, rfl, Nat.zero_le _, by rw [← HW0.out]; exact blk_alloc (blk_newn rfl) _, by rw [← HW0.out]; exact blk_newn (by simp), by rw [← HW0.out]; exact ((Below.refl _ W).alloc (Nat.le_refl _) _).alloc (by simp) _⟩
  go_enter Tryd.func20, Tryd.ntmps20
  go_upto_region 2 with fail
  change Code.wp _ _ _ _ ((W.alloc (.cells ((List.replicate 32 (0 : Int)).map nv).toArray 72)).alloc (.cells ((List.replicate 32 (0 : Int)).map nv).toArray 72))
  rw [HW0.out]
  go_wp2_with fail
  go_loopw [4] (fun i wr => NRel fs W i wr) (fun i _ => fs.length - (intOf i).toNat)
  case atStart => exact HN0.out
  case round =>
    obtain ⟨k, rfl, hk, HZ, HC, HB⟩ := hrel
    clear HN0
    by_cases hlt : k < fs.length
    · obtain ⟨g, o, hA, hg, hat⟩ := HROW.out.resolve_left (by intro e; rw [List.map_eq_nil_iff] at e; rw [e] at hlt; simp at hlt)
      subst hA
      obtain ⟨f, hf⟩ : ∃ f, fs[k]? = some f := ⟨_, List.getElem?_eq_getElem hlt⟩
      have c1 : wr.cell? ⟨g, o + k * 2, none⟩ = some (.int .i64 f.err) := by
        have := hat k (faultv f) (by rw [List.getElem?_map, hf]; rfl) 0 _ rfl
        exact (HB.out.cell (p := ⟨g, _, none⟩) hg).trans this
      have hsn : (fs.take (k + 1)).map Fault.err = (fs.take k).map Fault.err ++ [f.err] := by
        rw [List.take_add_one, hf]; simp
      have HSN := Lib.hid hsn
      clear hat hsn hg hf
      have i1 : (0 : Int) ≤ (k : Int) := Int.natCast_nonneg _
      have i2 : (k : Int) < (fs.length : Int) := by omega
      obtain ⟨er, hre⟩ : ∃ er, f.err = er := ⟨_, rfl⟩
      rw [hre] at c1 HSN
      clear hre
      rcases (by omega : er < 0 ∨ 32 ≤ er ∨ (0 ≤ er ∧ er < 32)) with he | he | ⟨he, he2⟩
      · go_wp2_with fail
        go_roundw
        case rel => exact ⟨k + 1, by go_num, by omega, HZ, (by show _ = _; rw [HSN.out, cnts_snoc]; unfold bump; rw [if_neg (by omega)]; exact HC.out), HB⟩
        case measure => simp [intOf]; omega
      · go_wp2_with fail
        go_roundw
        case rel => exact ⟨k + 1, by go_num, by omega, HZ, (by show _ = _; rw [HSN.out, cnts_snoc]; unfold bump; rw [if_neg (by omega)]; exact HC.out), HB⟩
        case measure => simp [intOf]; omega
      · obtain ⟨n, rfl⟩ := Int.eq_ofNat_of_zero_le he
        have hn : n < 32 := by omega
        obtain ⟨cl, hcl⟩ : ∃ cl, cnts ((fs.take k).map Fault.err) = cl := ⟨_, rfl⟩
        have hcl2 : cl.length = 32 := by rw [← hcl]; exact cnts_length _
        have hle := cnts_le ((fs.take k).map Fault.err)
        rw [hcl] at hle
        rw [hcl] at HC
        have HCL := Lib.hid hcl; clear hcl
        obtain ⟨x, hx⟩ : ∃ x, cl[n]? = some x := ⟨_, List.getElem?_eq_getElem (by omega)⟩
        have hx2 := hle x (List.mem_of_getElem? hx)
        have hx0 : 0 ≤ x := hx2.1
        have hx1 : x ≤ 1000000 := by have := hx2.2; rw [List.length_map, List.length_take] at this; omega
        have HX := Lib.hid hx
        clear hx hx2 hle
        have c2 : wr.cell? ⟨W.heap.size + 1, n, none⟩ = some (.int .i64 x) := by
          rw [cell_of_blk HC.out]; simp [HX.out, nv]
        have f2 : wr.frozen? ⟨W.heap.size + 1, n, none⟩ = false := froz_of_blk HC.out n
        go_wp2_with fail
        go_roundw
        case rel =>
          refine ⟨k + 1, by go_num, by omega, blk_farq HZ.out (by omega) _, ?_, HB.out.setCell (p := ⟨W.heap.size + 1, n, none⟩) (by show _ ≤ W.heap.size + 1; omega) _⟩
          show _ = _
          rw [HSN.out, cnts_snoc, HCL.out]
          have := blk_set HC.out n (.int .i64 (x + 1))
          refine this.trans ?_
          unfold bump
          rw [if_pos ⟨by omega, by omega⟩]
          have e1 : ((n : Int)).toNat = n := by omega
          have e2 : cl.getD n 0 = x := by simp [List.getD, HX.out]
          rw [e1, e2, List.setIfInBounds_toArray, List.map_set]
          rfl
        case measure => simp [intOf]; omega
    · have hke : k = fs.length := by omega
      subst hke
      rw [List.take_length] at HC
      obtain ⟨cl, hcl⟩ : ∃ cl, cnts (fs.map Fault.err) = cl := ⟨_, rfl⟩
      have hcl2 : cl.length = 32 := by rw [← hcl]; exact cnts_length _
      rw [hcl] at HC
      have HCQ := Lib.hid hcl
      clear hcl
      have HL := Lib.hid hcl2; clear hcl2
      go_upto_region 7 with fail
      iterate 1 go_step
      refine wpList_load_mid rfl 72 _ rfl (W.heap.size + 1) 0 rfl (cl.map nv) _ (range_of_blk HC.out) Tryd.underlying72 rfl (info_32 _ HL.out) ?_
      simp only [Act.put, List.setIfInBounds_toArray, List.set_cons_zero, List.set_cons_succ]
      refine wpList_store_row rfl 72 _ _ rfl W.heap.size (cl.map nv).toArray rfl rfl 72 _ HZ.out ((info_32 _ HL.out).trans (by simp)) (by simp [HL.out]) (one_ints _) ?_
      simp only [Act.put, List.setIfInBounds_toArray, List.set_cons_zero, List.set_cons_succ]
      obtain ⟨w9, hw9⟩ : ∃ w9, wr.setRow W.heap.size (cl.map nv).toArray = w9 := ⟨_, rfl⟩
      rw [hw9]
      have hfr : Fr (fun j => j = W.heap.size) wr w9 := by rw [← hw9]; exact (Fr.refl (fun j => j = W.heap.size) wr).setRow (.inl rfl) _
      have HB9 : Hid (w9.heap[W.heap.size]? = some (.cells (cl.map nv).toArray 72 (0, 0))) := by rw [← hw9]; exact blk_row HZ.out _
      have HBL : Hid (Below W.heap.size W w9) := HB.out.trans (hfr.below HB.out.size (fun j hj => by omega))
      clear hw9 hfr
      go_wp2_with fail
      refine bodyPost_ret (v := .agg (cl.map nv).toArray) (results_blk Tryd.results20 rfl HB9.out Tryd.underlying72 rfl ((info_32 _ HL.out).trans (by simp))) rfl ⟨by rw [HCQ.out], HBL.out⟩
end Go.Proofs.YtdhjibnkebbejaaDoor.Rs
