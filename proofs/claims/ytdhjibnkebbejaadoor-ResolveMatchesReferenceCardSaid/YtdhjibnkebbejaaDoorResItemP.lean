/-
  What the resolver's method item does: a party.
-/
import Derived.Test.YtdhjibnkebbejaaDoorResItemW
namespace Go.Proofs.YtdhjibnkebbejaaDoor.Rs
open Go.RowKit Mem Vw
set_option linter.unusedVariables false
set_option linter.unusedSimpArgs false

theorem info_str : (Tryd.prog.info? 9).map (fun i => (i.zero, i.size, i.bytes)) = some (some (.string ⟨#[]⟩), 1, 16) := by kernel_rfl
theorem info_role : (Tryd.prog.info? 59).map (fun i => (i.zero, i.size, i.bytes)) = some (some (.agg #[.string ⟨#[]⟩, .int .i64 0]), 2, 24) := by kernel_rfl
theorem info_unit : (Tryd.prog.info? 61).map (fun i => (i.zero, i.size, i.bytes)) = some (some (.agg #[.string ⟨#[]⟩, .int .i64 0, .int .i64 0, .int .i64 0, .int .i64 0]), 5, 48) := by kernel_rfl
theorem info_asym : (Tryd.prog.info? 65).map (fun i => (i.zero, i.size, i.bytes)) = some (some (.agg #[.string ⟨#[]⟩, .int .i64 0, .int .i64 0, .int .i64 0, .int .i64 0, .int .i64 0, .int .i64 0, .int .i64 0, .int .i64 0]), 9, 80) := by kernel_rfl
theorem info_csymz : (Tryd.prog.info? 71).map (fun i => (i.zero, i.size, i.bytes)) = some (some (.agg #[.string ⟨#[]⟩, .int .i64 0, .int .i64 0, .bool false, .string ⟨#[]⟩, .int .i64 0, .bool false, .string ⟨#[]⟩, .int .i64 0, .int .i64 0, .int .i64 0, .int .i64 0, .slice none 0 0, .int .i64 0, .int .i64 0, .bool false, .bool false, .int .i64 0, .int .i64 0, .int .i64 0, .int .i64 0, .int .i64 0, .int .i64 0, .bool false]), 24, 224) := by kernel_rfl
/-- The error of an item whose names are known, or not. -/
def err8 (b : Bool) : Int := if b then 0 else 8
theorem bk_ne {k : Int} {n : Int} (h : k ≠ n) : (k == n) = false := by simpa using h
theorem own_not {l B n : Nat} {rows : List OR} (h : ∀ r ∈ rows, ∀ g, r.v.ownBlock = some g → B ≤ g ∧ g < n) (hn : n ≤ l) : ∀ r ∈ rows, r.v.ownBlock ≠ some l := fun r hr e => by have := h r hr l e; omega
set_option maxRecDepth 100000 in
set_option maxHeartbeats 2000000 in
theorem item_party (src : Source) (t : Tab) (s : Sy) (B q hm : Nat) (mi : Nat → Nat) (mem : Value) (H : RH) (cl : List (ClauseSym × Value)) (x : Item) (sl : Sl) (W Wa : World) (h : ItemPre src t s B q hm mi mem H cl x sl W Wa) (hk : x.kind = 1) :
    Calls Tryd.prog 28 #[.pointer (some ⟨q, 0, none⟩), .agg (ic (x, sl)).toArray, .bool true, .bool false] W (ItemPost src t { s with parties := s.parties ++ [x.name] } 0 B q hm mi mem H.flt (rowsOf s H cl) W) := by
  obtain ⟨u0, HU⟩ : ∃ u0, Hid (W.alloc (.cells (ic (x, sl)).toArray 55) = u0) := ⟨_, rfl⟩
  have HI0 : Hid (IB W.heap.size x sl u0) := by rw [← HU.out]; exact blk_newn rfl
  have k0 : u0.cell? ⟨W.heap.size, 0, none⟩ = some (.int .i64 x.kind) := cell_of_blk HI0.out 0
  have hWu : W.heap.size < u0.heap.size := lt_of_blk HI0.out
  obtain ⟨u1, HU1⟩ : ∃ u1, Hid (u0.alloc (.cells #[.pointer (some ⟨q, 0, none⟩), .bool true] 127) = u1) := ⟨_, rfl⟩
  have HRW := Lib.hid h.rs
  have HR : Hid (RS src t s B q hm mi mem H cl u1) := by rw [← HU1.out, ← HU.out]; exact (h.rs.alloc _).alloc _
  have HF : Hid (Fr (Wr q hm (rowsOf s H cl)) W u1) := by rw [← HU1.out, ← HU.out]; exact ((Fr.refl _ W).alloc _).alloc _
  have HI : Hid (IB W.heap.size x sl u1) := by rw [← HU1.out]; exact blk_alloc HI0.out _
  have HL : Hid (LS t B q u0.heap.size true u1) := by
    refine ⟨HR.out.tb, ?_, ?_⟩
    · rw [← HU1.out]; exact blk_newn rfl
    · have := HRW.out.le; omega
  have hlB : B ≤ u0.heap.size := by have := HRW.out.le; omega
  have hq1 := h.rs.ne
  have hqB : q < B := hq1.2.2.1
  clear hq1
  have hu1 : u0.heap.size < u1.heap.size := lt_of_blk HL.out.lb
  have HRL : Hid (∀ r ∈ rowsOf s H cl, ∀ g, r.v.ownBlock = some g → B ≤ g ∧ g < W.heap.size) := fun r hr g hg => h.rs.rows.lt hr hg
  have HBA : Hid (Below Wa.heap.size Wa u1) := by
    have h1 := h.ba
    refine h1.trans (HF.out.below h1.size (fun k hk => ?_))
    have := h.bq
    rcases hk with rfl | rfl | ⟨r, hr, e⟩
    · omega
    · omega
    · have := (h.rs.rows.lt hr e).1
      omega
  have HP := Lib.hid h; clear h
  have HG : Hid (group 1 = 1) := rfl
  rw [hk] at k0
  have hk1 := HI.out
  have k1 : u1.cell? ⟨W.heap.size, 0, none⟩ = some (.int .i64 1) := by rw [← hk]; exact cell_of_blk HI.out 0
  clear hk hk1
  obtain ⟨hh, hp, hr, hu, ha, hc, hf⟩ := H
  have HO := HR.out.rows.ok _ (List.mem_cons_of_mem _ (List.mem_cons_self ..))
  obtain ⟨Ap, cp, hpe⟩ := own_form HO
  clear HO
  dsimp only at hpe
  subst hpe
  have QC := (HR.out.vq 13 rfl).1
  have HRD := Lib.hid HR.out.drew
  have N1 : u1.cell? ⟨W.heap.size, 1, none⟩ = some (.string ⟨x.name.toArray⟩) := cell_of_blk HI.out 1
  have HOWN : Hid ((u1.drew.alloc (.cells #[.string ⟨x.name.toArray⟩] 9)).ownsRow B 9 1 (.slice Ap s.parties.length cp) s.parties.length (s.parties.map sv)) := (HRD.out.alloc _).rows.ok _ (List.mem_cons_of_mem _ (List.mem_cons_self ..))
  have HRA := Lib.hid (HRD.out.alloc (.cells #[.string ⟨x.name.toArray⟩] 9))
  have HLA : Hid ((u1.drew.alloc (.cells #[.string ⟨x.name.toArray⟩] 9)).heap[u0.heap.size]? = some (.cells #[.pointer (some ⟨q, 0, none⟩), .bool true] 127 (0, 0))) := blk_alloc HL.out.lb _
  have QCA : Hid ((u1.drew.alloc (.cells #[.string ⟨x.name.toArray⟩] 9)).cell? ⟨q, 13, none⟩ = some (.slice Ap s.parties.length cp)) := (HRA.out.vq 13 rfl).1
  have hBle := HR.out.le
  obtain ⟨i0, hi, hz0, hz1, hz2⟩ := info_parts info_str
  go_enter Tryd.func28, Tryd.ntmps28
  go_upto_region 1 with fail
  rw [HU.out]
  clear HU
  go_wp2_with fail
  refine (groupOf_any 1 _).mono ?_
  rw [HG.out]
  rintro e w1 ⟨rfl, rfl⟩
  go_wp2_with fail
  rw [HU1.out]
  clear HU1
  refine Reg.G.start (by kernel_rfl) ?_
  refine' Reg.G.pure (i := 0) (v := _) rfl (by rfl) (by kernel_rfl) (by kernel_rfl) (by kernel_rfl) (fun _ _ _ h => h) ?hyr22_0 ?rer22_0
  case hyr22_0 => exact fun w => by first | (go_simp; done) | (go_simp; with_reducible rfl)
  simp only [Act.put, List.setIfInBounds_toArray, List.set_cons_zero, List.set_cons_succ]
  refine' Reg.G.pure (i := 1) (v := _) rfl (by rfl) (by kernel_rfl) (by kernel_rfl) (by kernel_rfl) (fun _ _ _ h => h) ?hyr22_1 ?rer22_1
  case hyr22_1 => exact fun w => by first | (go_simp; done) | (go_simp; with_reducible rfl)
  simp only [Act.put, List.setIfInBounds_toArray, List.set_cons_zero, List.set_cons_succ]
  refine' Reg.G.pure (i := 2) (v := _) rfl (by rfl) (by kernel_rfl) (by kernel_rfl) (by kernel_rfl) (fun _ _ _ h => h) ?hyr22_2 ?rer22_2
  case hyr22_2 => exact fun w => by first | (go_simp; done) | (go_simp; with_reducible rfl)
  simp only [Act.put, List.setIfInBounds_toArray, List.set_cons_zero, List.set_cons_succ]
  refine' Reg.G.pure (i := 3) (v := _) rfl (by rfl) (by kernel_rfl) (by kernel_rfl) (by kernel_rfl) (fun _ _ _ h => h) ?hyr22_3 ?rer22_3
  case hyr22_3 => exact fun w => by first | (go_simp; done) | (go_simp; with_reducible rfl)
  simp only [Act.put, List.setIfInBounds_toArray, List.set_cons_zero, List.set_cons_succ]
  refine' Reg.G.pure (i := 4) (v := _) rfl (by rfl) (by kernel_rfl) (by kernel_rfl) (by kernel_rfl) (fun _ _ _ h => h) ?hyr22_4 ?rer22_4
  case hyr22_4 => exact fun w => by first | (go_simp; done) | (go_simp; with_reducible rfl)
  simp only [Act.put, List.setIfInBounds_toArray, List.set_cons_zero, List.set_cons_succ]
  refine' Reg.G.take (i := 5) (v := _) (F := fun w => w.cell? ⟨q, 13, none⟩ = some (.slice Ap s.parties.length cp)) rfl (by rfl) (by kernel_rfl) (by kernel_rfl) (by kernel_rfl) (fun _ _ _ h => h) (by exact QC) ?hyr22_5 ?rer22_5
  case hyr22_5 => intro w hw; first | (go_simp; done) | (go_simp; with_reducible rfl)
  simp only [Act.put, List.setIfInBounds_toArray, List.set_cons_zero, List.set_cons_succ]
  refine' Reg.G.pure (i := 6) (v := _) rfl (by rfl) (by kernel_rfl) (by kernel_rfl) (by kernel_rfl) (fun _ _ _ h => h) ?hyr22_6 ?rer22_6
  case hyr22_6 => exact fun w => by first | (go_simp; done) | (go_simp; with_reducible rfl)
  simp only [Act.put, List.setIfInBounds_toArray, List.set_cons_zero, List.set_cons_succ]
  refine' Reg.G.take (i := 7) (v := _) (F := fun w => w.cell? ⟨W.heap.size, 1, none⟩ = some (.string ⟨x.name.toArray⟩)) rfl (by rfl) (by kernel_rfl) (by kernel_rfl) (by kernel_rfl) (fun _ _ _ h => h) (by exact N1) ?hyr22_7 ?rer22_7
  case hyr22_7 => intro w hw; first | (go_simp; done) | (go_simp; with_reducible rfl)
  simp only [Act.put, List.setIfInBounds_toArray, List.set_cons_zero, List.set_cons_succ]
  refine Reg.G.step (j := 8) (m := [false, true]) [7, 5] rfl (by kernel_rfl) rfl (by kernel_rfl) (fun K hK => ?_)
  -- Op.buildSlice 33 1 #[(0, t87)]
  go_simp
  refine hK.out _ _ ⟨QCA.out, trivial⟩ ?_
  clear hK K
  simp only [Act.put, List.setIfInBounds_toArray, List.set_cons_zero, List.set_cons_succ, Reg.Kept]
  refine Reg.G.step (j := 9) (m := [false]) [5] rfl (by kernel_rfl) rfl (by kernel_rfl) (fun K hK => ?_)
  -- Op.call { callee := Callee.builtin Builtin.append, args := #[t85, t88], argTypes := #[33, 33] }
  refine Go.step_append_lies _ rfl (.tmp 85) (.tmp 88) 33 rfl B 9 i0 _ 1 16 Tryd.underlying33 hi hz0 hz1 hz2 rfl (by decide) (.slice Ap s.parties.length cp) s.parties.length _ (by rfl) (HOWN.out) ⟨u1.drew.heap.size, 0, none⟩ 1 1 [.string ⟨x.name.toArray⟩] (by rfl) rfl (World.news_of_block (cs := [.string ⟨x.name.toArray⟩].toArray) (t := 9) (fr := (0, 0)) (heap_alloc_new u1.drew _)) (by simp [Value.oneCell']) (by decide) (by simp only [maxLen]; have := HP.out.lens; omega) (by have := HP.out.lens; omega) HRA.out.le (u1.drew.heap.size + 1) (by simp) ?_
  intro gg cap1 w5 hown hgrow hat hlt5
  have HG5 := Lib.hid hgrow
  have HO5 := Lib.hid hown
  have HAT := Lib.hid hat
  have HL5 : Hid (w5.heap[u0.heap.size]? = some (.cells #[.pointer (some ⟨q, 0, none⟩), .bool true] 127 (0, 0))) := (Fr.of_grown hgrow).blk HLA.out (fun e => by have := (HRL.out _ (List.mem_cons_of_mem _ (List.mem_cons_self ..)) _ e).2; omega)
  obtain ⟨c13, f13⟩ : w5.cell? ⟨q, 13, none⟩ = some (.slice Ap s.parties.length cp) ∧ w5.frozen? ⟨q, 13, none⟩ = false := by
    have := (Fr.of_grown hgrow).blk HRA.out.qb (fun e => by have := (HRL.out _ (List.mem_cons_of_mem _ (List.mem_cons_self ..)) _ e).1; omega)
    exact ⟨(cell_of_blk this 13).trans rfl, froz_of_blk this 13⟩
  clear hgrow hown hat
  refine hK.out _ _ trivial ?_
  clear hK K
  simp only [Act.put, List.setIfInBounds_toArray, List.set_cons_zero, List.set_cons_succ, Reg.Kept]
  refine' Reg.G.pure (i := 10) (v := _) rfl (by rfl) (by kernel_rfl) (by kernel_rfl) (by kernel_rfl) (fun _ _ _ h => h) ?hyr22_10 ?rer22_10
  case hyr22_10 => exact fun w => by first | (go_simp; done) | (go_simp; with_reducible rfl)
  simp only [Act.put, List.setIfInBounds_toArray, List.set_cons_zero, List.set_cons_succ]
  refine' Reg.G.pure (i := 11) (v := _) rfl (by rfl) (by kernel_rfl) (by kernel_rfl) (by kernel_rfl) (fun _ _ _ h => h) ?hyr22_11 ?rer22_11
  case hyr22_11 => exact fun w => by first | (go_simp; done) | (go_simp; with_reducible rfl)
  simp only [Act.put, List.setIfInBounds_toArray, List.set_cons_zero, List.set_cons_succ]
  refine' Reg.G.pure (i := 12) (v := _) rfl (by rfl) (by kernel_rfl) (by kernel_rfl) (by kernel_rfl) (fun _ _ _ h => h) ?hyr22_12 ?rer22_12
  case hyr22_12 => exact fun w => by first | (go_simp; done) | (go_simp; with_reducible rfl)
  simp only [Act.put, List.setIfInBounds_toArray, List.set_cons_zero, List.set_cons_succ]
  refine Reg.G.step (j := 13) (m := []) [] rfl (by kernel_rfl) rfl (by kernel_rfl) (fun K hK => ?_)
  -- Op.store 33 (t92) (t89)
  go_simp
  refine hK.out _ _ trivial ?_
  clear hK K
  simp only [Act.put, List.setIfInBounds_toArray, List.set_cons_zero, List.set_cons_succ, Reg.Kept]
  refine Reg.G.done (by kernel_rfl) ?_
  have l1 := cell_of_blk HL5.out 1
  have hne1 : ¬ u0.heap.size = q := by omega
  have hne2 : ¬ q = u0.heap.size := by omega
  have HFA := Lib.hid ((HF.out.drew.alloc _) : Fr _ W (u1.drew.alloc (.cells #[.string ⟨x.name.toArray⟩] 9)))
  have HF5 := Lib.hid (HFA.out.trans ((Fr.of_grown HG5.out).mono (fun j _ e => .inr (.inr ⟨_, (List.mem_cons_of_mem _ (List.mem_cons_self ..)), e⟩))))
  have HRN : Hid (RS src t { s with parties := s.parties ++ [x.name] } B q hm mi mem ⟨hh, .slice (some ⟨gg, 0, none⟩) (s.parties.length + 1) cap1, hr, hu, ha, hc, hf⟩ cl (w5.setCell ⟨q, 13, none⟩ (.slice (some ⟨gg, 0, none⟩) (s.parties.length + 1) cap1))) := by
    refine HRA.out.grow HRA.out.rows (k := 1) rfl HG5.out (r' := ⟨9, 1, .slice (some ⟨gg, 0, none⟩) (s.parties.length + 1) cap1, s.parties.length + 1, _⟩) HO5.out ?_ rfl rfl ?_ rfl HRA.out.cls (List.mem_cons_of_mem _ (List.mem_cons_self ..))
    · intro g hg
      injection hg with hg
      subst hg
      rcases HAT.out with h | h
      · exact .inl h
      · exact .inr (by rw [h]; simp)
    · simp [rowsOf, sv]
  go_wp2_with fail
  go_ret
  exact ⟨rfl, ⟨_, _, HRN.out, HP.out.nil, rfl⟩, HF5.out.setCell (.inl (.inl rfl)) _⟩
end Go.Proofs.YtdhjibnkebbejaaDoor.Rs
