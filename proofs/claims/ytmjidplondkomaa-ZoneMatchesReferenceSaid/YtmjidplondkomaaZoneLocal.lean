/-
  What the function Local of package zone returns.
-/
import Derived.Test.YtmjidplondkomaaZoneLaw
import Derived.Test.YtmjidplondkomaaZoneValid
namespace Go.Proofs.Ytmjidplondkomaa.Zn
open Go.RowKit Go.Shelf
set_option linter.unusedVariables false
attribute [local go_sem] Oper.semAt_some

theorem mkFunc (fn : Fn) (first cap : Array Value) (w : World) : (Instr.makeFunc fn first cap).run Try.prog w = .ok (.func fn first cap) w := rfl

theorem stretches_any (z : Zone) (A : Option Addr) (cap : Nat) (w : World) :
    Calls Try.prog 23 #[.agg #[.int .i64 z.off, .slice A z.chs.length cap]] w fun e w' => e = .returned (.func (.func 31) #[] #[.pointer (some ⟨w.heap.size, 0, none⟩)]) ∧
      w.alloc (.cells #[.int .i64 z.off, .slice A z.chs.length cap] 24) = w' := by
  have hmf := mkFunc
  go_enter Try.func23, Try.ntmps23
  go_wp2_with fail
  go_ret
  exact ⟨rfl, rfl⟩

/-- The offset at an instant: that of the first stretch that ends after it. -/
def offAt (z : Zone) (t : Int) : Nat → Nat → Int
  | 0, _ => 0
  | f + 1, k => if t < tto z k then ofs z k else offAt z t f (k + 1)

theorem offAt_step (z : Zone) (t : Int) (k : Nat) (hk : k < cnt z) : offAt z t (cnt z - k) k = if t < tto z k then ofs z k else offAt z t (cnt z - (k + 1)) (k + 1) := by
  obtain ⟨f, hf⟩ : ∃ f, cnt z - k = f + 1 := ⟨cnt z - k - 1, by omega⟩
  rw [hf, show cnt z - (k + 1) = f by omega]; rfl

set_option maxHeartbeats 2000000 in
theorem local_in (z : Zone) (A : Option Addr) (cap : Nat) (t : Int) (w : World) (hlen : z.chs.length ≤ 40) (hrow : ChRow w A z.chs) (hv : valid z = true) (h0 : 0 ≤ t) (h1 : t < 105190560)
    (L : Int) (hL : t + offAt z t (cnt z) 0 = L) (hlo : -100000 ≤ L) (hhi : L ≤ 200000000) (hofs : ∀ k, -840 ≤ ofs z k ∧ ofs z k ≤ 840) (R : Ending → Prop)
    (hR1 : L < 0 ∨ 105190560 ≤ L → R (.returned (.tuple #[.int .i64 0, .int .i64 0, .int .i64 2])))
    (hR2 : 0 ≤ L → L < 105190560 → R (.returned (.tuple #[.int .i64 (L / 1440), .int .i64 (L % 1440), .int .i64 0]))) :
    CallsIn Fence.wide 5 Try.prog 11 #[.agg #[.int .i64 z.off, .slice A z.chs.length cap], .int .i64 t] w fun e w' => R e ∧ Below w.heap.size w w' := by
  have HROW := Lib.hid hrow; clear hrow
  have HV := Lib.hid hv; clear hv
  have HL := Lib.hid hL; clear hL
  have HR1 := Lib.hid hR1; clear hR1
  have HR2 := Lib.hid hR2; clear hR2
  have HO := Lib.hid hofs; clear hofs
  refine callsIn_of_wp_marks Try.func11 rfl trivial ?_ rfl
  simp only [Try.ntmps11, List.size_toArray, List.length_cons, List.length_nil, Nat.reduceAdd, Nat.reduceSub, Array.replicate_succ, Array.replicate_zero, List.push_toArray, List.append_toArray, List.nil_append, List.cons_append]
  gi_wp2_with fail
  refine ⟨trivial, (callsIn_wide.2 (valid_any z A cap _ (by omega) (HROW.out.below (by go_grown)))).mono ?_⟩
  rw [HV.out]
  rintro e w1 ⟨rfl, hb1⟩
  have hw0 : Below w.heap.size w ((w.alloc (.cells #[.int .i64 z.off, .slice A z.chs.length cap] 24)).alloc (.cells #[.int .i64 t] 3)) := by go_grown
  have hbz : w1.heap[w.heap.size]? = some (.cells #[.int .i64 z.off, .slice A z.chs.length cap] 24 (0, 0)) := (hb1.block _ (by simp; omega)).trans (blk_alloc (heap_alloc_new w _) _)
  have hbt : w1.heap[w.heap.size + 1]? = some (.cells #[.int .i64 t] 3 (0, 0)) := (hb1.block _ (by simp)).trans (by have := heap_alloc_new (w.alloc (.cells #[.int .i64 z.off, .slice A z.chs.length cap] 24)) (.cells #[.int .i64 t] 3); rwa [World.size_alloc] at this)
  have hsz1 := hb1.size
  simp only [World.size_alloc] at hsz1 hb1
  have HB1 : Hid (Below w.heap.size w w1) := hw0.trans (hb1.mono (by omega))
  clear hb1 hw0
  have c0 : w1.cell? ⟨w.heap.size, 0, none⟩ = some (.int .i64 z.off) := cell_of_blk hbz 0
  have c1 : w1.cell? ⟨w.heap.size, 1, none⟩ = some (.slice A z.chs.length cap) := cell_of_blk hbz 1
  have c2 : w1.cell? ⟨w.heap.size + 1, 0, none⟩ = some (.int .i64 t) := cell_of_blk hbt 0
  have HBZ := Lib.hid hbz; clear hbz
  have HBT := Lib.hid hbt; clear hbt
  have e0 : ∀ o, (w1.alloc o).cell? ⟨w.heap.size, 0, none⟩ = some (.int .i64 z.off) := fun o => cell_of_blk (blk_alloc HBZ.out o) 0
  have e1 : ∀ o, (w1.alloc o).cell? ⟨w.heap.size, 1, none⟩ = some (.slice A z.chs.length cap) := fun o => cell_of_blk (blk_alloc HBZ.out o) 1
  gi_wp2_with fail
  refine ⟨trivial, (callsIn_wide.2 (stretches_any z A cap _)).mono ?_⟩
  rintro e w2 ⟨rfl, rfl⟩
  gi_wp2_with fail
  have hbz2 : ((w1.alloc (.cells #[.int .i64 t] 3)).alloc (.cells #[.int .i64 z.off, .slice A z.chs.length cap] 24)).heap[w1.heap.size + 1]? = some (.cells #[.int .i64 z.off, .slice A z.chs.length cap] 24 (0, 0)) := by
    have := heap_alloc_new (w1.alloc (.cells #[.int .i64 t] 3)) (.cells #[.int .i64 z.off, .slice A z.chs.length cap] 24); rwa [World.size_alloc] at this
  have hb7 : ((w1.alloc (.cells #[.int .i64 t] 3)).alloc (.cells #[.int .i64 z.off, .slice A z.chs.length cap] 24)).heap[w1.heap.size]? = some (.cells #[.int .i64 t] 3 (0, 0)) := blk_alloc (heap_alloc_new w1 _) _
  have hbt2 : ((w1.alloc (.cells #[.int .i64 t] 3)).alloc (.cells #[.int .i64 z.off, .slice A z.chs.length cap] 24)).heap[w.heap.size + 1]? = some (.cells #[.int .i64 t] 3 (0, 0)) := blk_alloc (blk_alloc HBT.out _) _
  have hsz2 : ((w1.alloc (.cells #[.int .i64 t] 3)).alloc (.cells #[.int .i64 z.off, .slice A z.chs.length cap] 24)).heap.size = w1.heap.size + 2 := by simp
  have hbel2 : Below w.heap.size w ((w1.alloc (.cells #[.int .i64 t] 3)).alloc (.cells #[.int .i64 z.off, .slice A z.chs.length cap] 24)) := (HB1.out.alloc (by omega) _).alloc (by simp; omega) _
  have hrow2 : ChRow ((w1.alloc (.cells #[.int .i64 t] 3)).alloc (.cells #[.int .i64 z.off, .slice A z.chs.length cap] 24)) A z.chs := HROW.out.below hbel2
  clear c0 c1 c2 e0 e1
  refine range_zone_at 5 (by omega) (w1.heap.size + 1) w.heap.size z A cap rfl (by rw [hsz2]; omega) hbz2 hrow2 ?hrn (by omega)
    (fun k W => W.heap[w1.heap.size]? = some (.cells #[.int .i64 t] 3 (0, 0)) ∧ W.heap[w.heap.size + 1]? = some (.cells #[.int .i64 t] 3 (0, 0)) ∧ Below w.heap.size w W ∧ offAt z t (cnt z) 0 = offAt z t (cnt z - k) k)
    (fun c k W => c = .exit 0 ∧ W.heap[w1.heap.size]? = some (.cells #[.int .i64 L] 3 (0, 0)) ∧ Below w.heap.size w W)
    ?hia ?his ?hip ?hix ⟨hb7, hbt2, hbel2, rfl⟩ 23 8 ?hassign ?hbody ?hdone ?hstop
  case hrn =>
    intro g o e hp
    obtain ⟨g', o', hA, hg, _⟩ := HROW.out hp
    rw [e] at hA; injection hA with hA; injection hA with e1 _ _
    omega
  case hia =>
    rintro k W o ⟨h1, h2, h3, h4⟩
    exact ⟨blk_alloc h1 o, blk_alloc h2 o, h3.alloc h3.size o, h4⟩
  case his =>
    rintro k W a v ha ⟨h1, h2, h3, h4⟩
    rw [hsz2] at ha
    exact ⟨blk_far h1 (by omega) v, blk_far h2 (by omega) v, h3.setCell (by omega) v, h4⟩
  case hip =>
    rintro k W i o hi ⟨h1, h2, h3, h4⟩
    rw [hsz2] at hi
    have hlt := lt_of_blk h1
    refine ⟨by rw [World.putObj_heap_other (by omega)]; exact h1, by rw [World.putObj_heap_other (by omega)]; exact h2, h3.trans ⟨rfl, rfl, rfl, by simp [World.putObj], fun k hk => World.putObj_heap_other (by omega)⟩, h4⟩
  case hix =>
    rintro c k W i o hi ⟨h1, h2, h3⟩
    rw [hsz2] at hi
    exact ⟨h1, by rw [World.putObj_heap_other (by omega)]; exact h2, h3.trans ⟨rfl, rfl, rfl, by simp [World.putObj], fun k hk => World.putObj_heap_other (by omega)⟩⟩
  case hassign =>
    intro k W K hK
    simp only [stv, stc] at hK ⊢
    gi_wp2
    exact hK
  case hbody =>
    rintro k b W hk ⟨i1, i2, i3, i4⟩ hb hbb
    rw [hsz2] at hbb
    simp only [stv, stc] at hb ⊢
    have s0 : W.cell? ⟨b, 0, none⟩ = some (.int .i64 (frm z k)) := cell_of_blk hb 0
    have s1 : W.cell? ⟨b, 1, none⟩ = some (.int .i64 (tto z k)) := cell_of_blk hb 1
    have s2 : W.cell? ⟨b, 2, none⟩ = some (.int .i64 (ofs z k)) := cell_of_blk hb 2
    have s3 : W.cell? ⟨w1.heap.size, 0, none⟩ = some (.int .i64 t) := cell_of_blk i1 0
    have s4 : W.cell? ⟨w.heap.size + 1, 0, none⟩ = some (.int .i64 t) := cell_of_blk i2 0
    have f3 := froz_of_blk i1 0
    have hof := HO.out k
    rw [offAt_step z t k hk] at i4
    have hl := HL.out
    rw [i4] at hl
    have HI1 := Lib.hid i1; have HI2 := Lib.hid i2; have HI3 := Lib.hid i3; have HI4 := Lib.hid i4; have HHL := Lib.hid hl
    clear i1 i2 i3 i4 hl hb
    by_cases hlt : t < tto z k
    · generalize hof2 : ofs z k = of_ at *
      generalize htt : tto z k = tt at *
      generalize hff : frm z k = ff at *
      clear hof2 htt hff
      have HLE : Hid (t + of_ = L) := by have := HHL.out; rw [if_pos hlt] at this; exact this
      gi_wp2
      refine ⟨⟨rfl, ?_, HI3.out.setCell (by show w.heap.size ≤ w1.heap.size; omega) _⟩, Below.heap_setCell _ _ _ _ (by show _ ≠ w1.heap.size; omega), Below.heap_setCell _ _ _ _ (by show _ ≠ w1.heap.size; omega)⟩
      have := blk_set HI1.out 0 (.int .i64 (t + of_))
      rw [HLE.out] at this ⊢
      exact this
    · have HI5 : Hid (offAt z t (cnt z) 0 = offAt z t (cnt z - (k + 1)) (k + 1)) := by have := HI4.out; rw [if_neg hlt] at this; exact this
      gi_wp2
      exact ⟨⟨HI1.out, HI2.out, HI3.out, HI5.out⟩, Keep.refl _ _, rfl, rfl⟩
  case hdone =>
    rintro W ⟨i1, i2, i3, i4⟩ hD
    have hLt : t = L := by
      have := HL.out
      rw [i4, Nat.sub_self] at this
      simpa [offAt] using this
    rw [hLt] at i1
    have s3 : W.cell? ⟨w1.heap.size, 0, none⟩ = some (.int .i64 L) := cell_of_blk i1 0
    have HI3 := Lib.hid i3
    have HD := Lib.hid hD
    clear i1 i2 i3 i4 hLt hD
    have hput : ∀ W0, Below w.heap.size w W0 → w1.heap.size + 2 < W0.heap.size → Below w.heap.size w (W0.putObj (w1.heap.size + 2) (.deferred none)) :=
      fun W0 h hs => h.trans ⟨rfl, rfl, rfl, by simp [World.putObj], fun k hk => World.putObj_heap_other (by omega)⟩
    have HP := Lib.hid hput; clear hput
    rw [hsz2] at HD
    have hlt := lt_of_blk HD.out
    by_cases hl0 : L < 0 ∨ 105190560 ≤ L
    · have hr := Lib.hid (HR1.out hl0)
      rcases hl0 with hl0 | hl0
      all_goals
        gi_wp2
        try rw [hsz2]
        refine ⟨by simp, .inl ⟨_, _, rfl, run_takeDeferred HD.out, ?_⟩⟩
        exact ⟨.tuple #[.int .i64 0, .int .i64 0, .int .i64 2], results_tmp3 (t := 4) (u := 5) (v := 6) rfl _ _ _, hr.out, HP.out _ HI3.out hlt⟩
    · have hl1 : 0 ≤ L := by omega
      have hl2 : L < 105190560 := by omega
      have hr := Lib.hid (HR2.out hl1 hl2)
      gi_wp2
      gi_region
      gi_wp2
      try rw [hsz2]
      refine ⟨by simp, .inl ⟨_, _, rfl, run_takeDeferred HD.out, ?_⟩⟩
      exact ⟨.tuple #[.int .i64 (L / 1440), .int .i64 (L % 1440), .int .i64 0], results_tmp3 (t := 4) (u := 5) (v := 6) rfl _ _ _, hr.out, HP.out _ HI3.out.drew hlt⟩
  case hstop =>
    rintro c k W hk ⟨rfl, i1, i3⟩ hD
    have s3 : W.cell? ⟨w1.heap.size, 0, none⟩ = some (.int .i64 L) := cell_of_blk i1 0
    have HI3 := Lib.hid i3
    have HD := Lib.hid hD
    clear i1 i3 hD
    have hput : ∀ W0, Below w.heap.size w W0 → w1.heap.size + 2 < W0.heap.size → Below w.heap.size w (W0.putObj (w1.heap.size + 2) (.deferred none)) :=
      fun W0 h hs => h.trans ⟨rfl, rfl, rfl, by simp [World.putObj], fun k hk => World.putObj_heap_other (by omega)⟩
    have HP := Lib.hid hput; clear hput
    rw [hsz2] at HD
    have hlt := lt_of_blk HD.out
    by_cases hl0 : L < 0 ∨ 105190560 ≤ L
    · have hr := Lib.hid (HR1.out hl0)
      rcases hl0 with hl0 | hl0
      all_goals
        gi_wp2
        try rw [hsz2]
        refine ⟨by simp, .inl ⟨_, _, rfl, run_takeDeferred HD.out, ?_⟩⟩
        exact ⟨.tuple #[.int .i64 0, .int .i64 0, .int .i64 2], results_tmp3 (t := 4) (u := 5) (v := 6) rfl _ _ _, hr.out, HP.out _ HI3.out hlt⟩
    · have hl1 : 0 ≤ L := by omega
      have hl2 : L < 105190560 := by omega
      have hr := Lib.hid (HR2.out hl1 hl2)
      gi_wp2
      gi_region
      gi_wp2
      try rw [hsz2]
      refine ⟨by simp, .inl ⟨_, _, rfl, run_takeDeferred HD.out, ?_⟩⟩
      exact ⟨.tuple #[.int .i64 (L / 1440), .int .i64 (L % 1440), .int .i64 0], results_tmp3 (t := 4) (u := 5) (v := 6) rfl _ _ _, hr.out, HP.out _ HI3.out.drew hlt⟩
end Go.Proofs.Ytmjidplondkomaa.Zn
