/-
  What the resolver's method item does.
-/
import Derived.Test.YtdhjibnkebbejaaDoorResRes
namespace Go.Proofs.YtdhjibnkebbejaaDoor.Rs
open Go.RowKit Mem Vw
set_option linter.unusedVariables false
set_option linter.unusedSimpArgs false

/-- What an item's call may write: the resolver's block, the map of holidays, the rows. -/
abbrev Wr (q hm : Nat) (rows : List OR) (k : Nat) : Prop := k = q ∨ k = hm ∨ ∃ r ∈ rows, r.v.ownBlock = some k
/-- What an item's call leaves: the resolver, and which blocks may have been written. -/
def ItemPost (src : Source) (t : Tab) (s' : Sy) (err : Int) (B q hm : Nat) (mi : Nat → Nat) (mem : Value) (FF : OR) (rows : List OR) (W : World) (e : Ending) (w' : World) : Prop :=
  e = .returned (.int .i64 err) ∧ (∃ H' cl', RS src t s' B q hm mi mem H' cl' w' ∧ H'.hol = Vw.nil ∧ H'.flt = FF) ∧ Fr (Wr q hm rows) W w'
/-- What the calls of item are given. -/
structure ItemPre (src : Source) (t : Tab) (s : Sy) (B q hm : Nat) (mi : Nat → Nat) (mem : Value) (H : RH) (cl : List (ClauseSym × Value)) (x : Item) (sl : Sl) (W Wa : World) : Prop where
  rs : RS src t s B q hm mi mem H cl W
  nil : H.hol = Vw.nil
  fl : Flat Wa x sl.1 sl.2.1 sl.2.2.1
  si : IsSlice sl.2.2.2
  ba : Below Wa.heap.size Wa W
  bf : Bf Wa
  bq : Wa.heap.size ≤ q ∧ Wa.heap.size ≤ hm ∧ Wa.heap.size ≤ B
  ok : ItemOk x
  conds : x.conds.length ≤ 1000000
  lens : s.parties.length ≤ 1000000 ∧ s.roles.length ≤ 1000000 ∧ s.units.length ≤ 1000000 ∧ s.acts.length ≤ 1000000 ∧ cl.length ≤ 1000000
theorem info_item : (Tryd.prog.info? 55).map (·.size) = some 33 := by kernel_rfl
theorem info_icl (p : Item × Sl) : (Tryd.prog.info? 55).map (·.size) = some (ic p).toArray.size := info_item
theorem group_of {k : Int} (h : group k = 0) : k ≠ 1 ∧ k ≠ 2 ∧ k ≠ 3 ∧ k ≠ 8 ∧ k ≠ 9 ∧ k ≠ 10 ∧ k ≠ 11 ∧ k ≠ 12 := by
  rcases group_cases k with ⟨h1, e⟩ | ⟨h1, e⟩ | ⟨h1, e⟩ | ⟨h1, e⟩ | ⟨h1, e⟩ | ⟨h1, e⟩ | ⟨h1, e⟩ | ⟨h1, e⟩ | ⟨h1, e⟩
  all_goals first | exact h1 | (rw [e] at h; omega)
set_option maxRecDepth 100000 in
set_option maxHeartbeats 2000000 in
theorem item_none (src : Source) (t : Tab) (s : Sy) (B q hm : Nat) (mi : Nat → Nat) (mem : Value) (H : RH) (cl : List (ClauseSym × Value)) (x : Item) (sl : Sl) (tw mb : Bool) (W Wa : World) (h : ItemPre src t s B q hm mi mem H cl x sl W Wa)
    (h4 : x.kind ≠ 4) (h5 : x.kind ≠ 5) (hg : group x.kind = 0) :
    Calls Tryd.prog 28 #[.pointer (some ⟨q, 0, none⟩), .agg (ic (x, sl)).toArray, .bool mb, .bool tw] W (ItemPost src t s 10 B q hm mi mem H.flt (rowsOf s H cl) W) := by
  obtain ⟨u0, HU⟩ : ∃ u0, Hid (W.alloc (.cells (ic (x, sl)).toArray 55) = u0) := ⟨_, rfl⟩
  have k0 : u0.cell? ⟨W.heap.size, 0, none⟩ = some (.int .i64 x.kind) := by rw [← HU.out]; exact cell_of_blk (blk_newn rfl) 0
  have HR : Hid (RS src t s B q hm mi mem H cl u0) := by rw [← HU.out]; exact h.rs.alloc _
  have HF : Hid (Fr (Wr q hm (rowsOf s H cl)) W u0) := by rw [← HU.out]; exact (Fr.refl _ W).alloc _
  have HP := Lib.hid h; have HG := Lib.hid hg; clear h hg
  have b4 : (x.kind == 4) = false := by simpa using h4
  have b5 : (x.kind == 5) = false := by simpa using h5
  clear h4 h5
  go_enter Tryd.func28, Tryd.ntmps28
  go_upto_region 1 with fail
  rw [HU.out]
  clear HU
  go_wp2_with fail
  refine (groupOf_any x.kind _).mono ?_
  rw [HG.out]
  rintro e w1 ⟨rfl, rfl⟩
  go_wp2_with fail
  go_ret
  exact ⟨rfl, ⟨H, cl, HR.out, HP.out.nil, rfl⟩, HF.out⟩
set_option maxRecDepth 100000 in
set_option maxHeartbeats 2000000 in
theorem item_twice (src : Source) (t : Tab) (s : Sy) (B q hm : Nat) (mi : Nat → Nat) (mem : Value) (H : RH) (cl : List (ClauseSym × Value)) (x : Item) (sl : Sl) (tw mb : Bool) (W Wa : World) (h : ItemPre src t s B q hm mi mem H cl x sl W Wa)
    (h4 : x.kind ≠ 4) (h5 : x.kind ≠ 5) (hg : group x.kind ≠ 0) (ht : tw = true ∨ mb = false) :
    Calls Tryd.prog 28 #[.pointer (some ⟨q, 0, none⟩), .agg (ic (x, sl)).toArray, .bool mb, .bool tw] W (ItemPost src t s (if tw then 9 else 3) B q hm mi mem H.flt (rowsOf s H cl) W) := by
  obtain ⟨u0, HU⟩ : ∃ u0, Hid (W.alloc (.cells (ic (x, sl)).toArray 55) = u0) := ⟨_, rfl⟩
  have k0 : u0.cell? ⟨W.heap.size, 0, none⟩ = some (.int .i64 x.kind) := by rw [← HU.out]; exact cell_of_blk (blk_newn rfl) 0
  have HR : Hid (RS src t s B q hm mi mem H cl u0) := by rw [← HU.out]; exact h.rs.alloc _
  have HF : Hid (Fr (Wr q hm (rowsOf s H cl)) W u0) := by rw [← HU.out]; exact (Fr.refl _ W).alloc _
  have HP := Lib.hid h; clear h
  obtain ⟨g, hgg⟩ : ∃ g, group x.kind = g := ⟨_, rfl⟩
  have hgb : ((g : Int) == 0) = false := by rw [hgg] at hg; simpa using hg
  have HG := Lib.hid hgg; clear hg hgg
  have b4 : (x.kind == 4) = false := by simpa using h4
  have b5 : (x.kind == 5) = false := by simpa using h5
  clear h4 h5
  cases tw with
  | true =>
    clear ht
    go_enter Tryd.func28, Tryd.ntmps28
    go_upto_region 1 with fail
    rw [HU.out]
    clear HU
    go_wp2_with fail
    refine (groupOf_any x.kind _).mono ?_
    rw [HG.out]
    rintro e w1 ⟨rfl, rfl⟩
    go_wp2_with fail
    go_ret
    exact ⟨rfl, ⟨H, cl, HR.out, HP.out.nil, rfl⟩, HF.out⟩
  | false =>
    have hmb : mb = false := by simpa using ht
    subst hmb
    clear ht
    go_enter Tryd.func28, Tryd.ntmps28
    go_upto_region 1 with fail
    rw [HU.out]
    clear HU
    go_wp2_with fail
    refine (groupOf_any x.kind _).mono ?_
    rw [HG.out]
    rintro e w1 ⟨rfl, rfl⟩
    go_wp2_with fail
    go_ret
    exact ⟨rfl, ⟨H, cl, HR.out, HP.out.nil, rfl⟩, HF.out⟩
set_option maxRecDepth 100000 in
set_option maxHeartbeats 2000000 in
theorem item_holiday (src : Source) (t : Tab) (s : Sy) (B q hm : Nat) (mi : Nat → Nat) (mem : Value) (H : RH) (cl : List (ClauseSym × Value)) (x : Item) (sl : Sl) (tw mb : Bool) (W Wa : World) (h : ItemPre src t s B q hm mi mem H cl x sl W Wa) (h5 : x.kind = 5) :
    Calls Tryd.prog 28 #[.pointer (some ⟨q, 0, none⟩), .agg (ic (x, sl)).toArray, .bool mb, .bool tw] W (ItemPost src t { s with hol := (holiL s.hol x).1 } (holiL s.hol x).2 B q hm mi mem H.flt (rowsOf s H cl) W) := by
  obtain ⟨u0, HU⟩ : ∃ u0, Hid (W.alloc (.cells (ic (x, sl)).toArray 55) = u0) := ⟨_, rfl⟩
  have k0 : u0.cell? ⟨W.heap.size, 0, none⟩ = some (.int .i64 x.kind) := by rw [← HU.out]; exact cell_of_blk (blk_newn rfl) 0
  have HI : Hid (IB W.heap.size x sl u0) := by rw [← HU.out]; exact blk_newn rfl
  have HR : Hid (RS src t s B q hm mi mem H cl u0) := by rw [← HU.out]; exact h.rs.alloc _
  have HF : Hid (Fr (Wr q hm (rowsOf s H cl)) W u0) := by rw [← HU.out]; exact (Fr.refl _ W).alloc _
  have HB : Hid (Below Wa.heap.size Wa u0) := by rw [← HU.out]; exact h.ba.alloc h.ba.size _
  have HP := Lib.hid h; clear h
  rw [h5] at k0
  clear h5
  go_enter Tryd.func28, Tryd.ntmps28
  go_upto_region 1 with fail
  rw [HU.out]
  clear HU
  go_upto_region 10 with fail
  iterate 4 go_step
  refine wpList_load_row rfl 55 _ rfl W.heap.size rfl 55 (ic (x, sl)).toArray (0, 0) _ HI.out Tryd.underlying55 rfl (info_icl _) ?_
  simp only [Act.put, List.setIfInBounds_toArray, List.set_cons_zero, List.set_cons_succ]
  go_wp2_with fail
  refine (holiday_any q hm s.hol x sl _ Wa HR.out.hs HP.out.fl.dates HB.out HP.out.bf HP.out.bq.1 HP.out.bq.2.1 HP.out.ok.dates).mono ?_
  rintro e w1 ⟨rfl, hh, hf⟩
  have HH := Lib.hid hh; have HF1 := Lib.hid hf; clear hh hf
  go_wp2_with fail
  go_ret
  exact ⟨rfl, ⟨H, cl, HR.out.hol HH.out HF1.out, HP.out.nil, rfl⟩, HF.out.trans (HF1.out.mono (fun _ _ e => .inr (.inl e)))⟩
end Go.Proofs.YtdhjibnkebbejaaDoor.Rs
