/-
  What the function Instants of package zone returns.
-/
import Derived.Test.YtmjidplondkomaaZoneInst
namespace Go.Proofs.Ytmjidplondkomaa.Zn
open Go.RowKit Go.Shelf
set_option linter.unusedVariables false
attribute [local go_sem] Oper.semAt_some

theorem cells_new1 (W : World) (v : Value) (T : TypeId) (g : Nat) (hg : g = W.heap.size) : ∀ j u, [v][j]? = some u → (W.alloc (.cells #[v] T)).cell? ((⟨g, 0, none⟩ : Addr).add j) = some u := by
  subst hg
  intro j u hu
  match j with
  | 0 => simp at hu; subst hu; simp [Addr.add]
  | j + 1 => simp at hu

set_option maxHeartbeats 4000000 in
theorem instants_in (z : Zone) (A : Option Addr) (cap : Nat) (d m : Int) (w : World) (hrow : ChRow w A z.chs) (hok : okLocal z d m = true) (hlen : z.chs.length ≤ 40) (h0 : 0 ≤ d) (h1 : d ≤ 73048) (h2 : 0 ≤ m) (h3 : m < 1440) (hofs : ∀ k, -840 ≤ ofs z k ∧ ofs z k ≤ 840) :
    CallsIn Fence.wide 5 Try.prog 20 #[.agg #[.int .i64 z.off, .slice A z.chs.length cap], .int .i64 d, .int .i64 m] w fun e w' =>
      (∃ B c, e = .returned (.slice B (instTo z (d * 1440 + m) (cnt z)).length c) ∧ w'.ownsRow w.heap.size 3 1 (.slice B (instTo z (d * 1440 + m) (cnt z)).length c) (instTo z (d * 1440 + m) (cnt z)).length ((instTo z (d * 1440 + m) (cnt z)).map (Value.int .i64))) ∧ Below w.heap.size w w' := by
  have HROW := Lib.hid hrow; clear hrow
  have HOK := Lib.hid hok; clear hok
  have HO := Lib.hid hofs; clear hofs
  obtain ⟨i0, hi, hz0, hz1, hz2⟩ := info_parts info_int
  refine callsIn_of_wp_marks Try.func20 rfl trivial ?_ rfl
  simp only [Try.ntmps20, List.size_toArray, List.length_cons, List.length_nil, Nat.reduceAdd, Nat.reduceSub, Array.replicate_succ, Array.replicate_zero, List.push_toArray, List.append_toArray, List.nil_append, List.cons_append]
  gi_wp2_with fail
  refine ⟨trivial, (callsIn_wide.2 (isLocal_any z A cap d m _ (by omega) (HROW.out.below (by go_grown)))).mono ?_⟩
  rw [HOK.out]
  rintro e w1 ⟨rfl, hb1⟩
  have hw0 : Below w.heap.size w (((w.alloc (.cells #[.int .i64 z.off, .slice A z.chs.length cap] 24)).alloc (.cells #[.int .i64 d] 3)).alloc (.cells #[.int .i64 m] 3)) := by go_grown
  have hbz : w1.heap[w.heap.size]? = some (.cells #[.int .i64 z.off, .slice A z.chs.length cap] 24 (0, 0)) := (hb1.block _ (by simp only [World.size_alloc]; omega)).trans (blk_alloc (blk_alloc (heap_alloc_new w _) _) _)
  have hbd : w1.heap[w.heap.size + 1]? = some (.cells #[.int .i64 d] 3 (0, 0)) := (hb1.block _ (by simp only [World.size_alloc]; omega)).trans (blk_alloc (by have := heap_alloc_new (w.alloc (.cells #[.int .i64 z.off, .slice A z.chs.length cap] 24)) (.cells #[.int .i64 d] 3); rwa [World.size_alloc] at this) _)
  have hbm : w1.heap[w.heap.size + 1 + 1]? = some (.cells #[.int .i64 m] 3 (0, 0)) := (hb1.block _ (by simp only [World.size_alloc]; omega)).trans (by have := heap_alloc_new ((w.alloc (.cells #[.int .i64 z.off, .slice A z.chs.length cap] 24)).alloc (.cells #[.int .i64 d] 3)) (.cells #[.int .i64 m] 3); rwa [World.size_alloc, World.size_alloc] at this)
  have hsz1 := hb1.size
  simp only [World.size_alloc] at hsz1 hb1
  have HB1 : Hid (Below w.heap.size w w1) := hw0.trans (hb1.mono (by omega))
  clear hb1 hw0
  have HBZ := Lib.hid hbz; clear hbz
  have HBD := Lib.hid hbd; clear hbd
  have HBM := Lib.hid hbm; clear hbm
  have e0 : ∀ o, (w1.alloc o).cell? ⟨w.heap.size, 0, none⟩ = some (.int .i64 z.off) := fun o => cell_of_blk (blk_alloc HBZ.out o) 0
  have e1 : ∀ o, (w1.alloc o).cell? ⟨w.heap.size, 1, none⟩ = some (.slice A z.chs.length cap) := fun o => cell_of_blk (blk_alloc HBZ.out o) 1
  gi_wp2_with fail
  refine ⟨trivial, (callsIn_wide.2 (stretches_any z A cap _)).mono ?_⟩
  rintro e w2 ⟨rfl, rfl⟩
  gi_wp2_with fail
  have hbz2 : ((w1.alloc (.cells #[.slice none 0 0] 33)).alloc (.cells #[.int .i64 z.off, .slice A z.chs.length cap] 24)).heap[w1.heap.size + 1]? = some (.cells #[.int .i64 z.off, .slice A z.chs.length cap] 24 (0, 0)) := by
    have := heap_alloc_new (w1.alloc (.cells #[.slice none 0 0] 33)) (.cells #[.int .i64 z.off, .slice A z.chs.length cap] 24); rwa [World.size_alloc] at this
  have hb7 : ((w1.alloc (.cells #[.slice none 0 0] 33)).alloc (.cells #[.int .i64 z.off, .slice A z.chs.length cap] 24)).heap[w1.heap.size]? = some (.cells #[.slice none 0 0] 33 (0, 0)) := blk_alloc (heap_alloc_new w1 _) _
  have hbd2 : ((w1.alloc (.cells #[.slice none 0 0] 33)).alloc (.cells #[.int .i64 z.off, .slice A z.chs.length cap] 24)).heap[w.heap.size + 1]? = some (.cells #[.int .i64 d] 3 (0, 0)) := blk_alloc (blk_alloc HBD.out _) _
  have hbm2 : ((w1.alloc (.cells #[.slice none 0 0] 33)).alloc (.cells #[.int .i64 z.off, .slice A z.chs.length cap] 24)).heap[w.heap.size + 1 + 1]? = some (.cells #[.int .i64 m] 3 (0, 0)) := blk_alloc (blk_alloc HBM.out _) _
  have hsz2 : ((w1.alloc (.cells #[.slice none 0 0] 33)).alloc (.cells #[.int .i64 z.off, .slice A z.chs.length cap] 24)).heap.size = w1.heap.size + 2 := by simp
  have hbel2 : Below w.heap.size w ((w1.alloc (.cells #[.slice none 0 0] 33)).alloc (.cells #[.int .i64 z.off, .slice A z.chs.length cap] 24)) := (HB1.out.alloc (by omega) _).alloc (by simp; omega) _
  have hrow2 : ChRow ((w1.alloc (.cells #[.slice none 0 0] 33)).alloc (.cells #[.int .i64 z.off, .slice A z.chs.length cap] 24)) A z.chs := HROW.out.below hbel2
  clear e0 e1
  refine range_zone_at 5 (by omega) (w1.heap.size + 1) w.heap.size z A cap rfl (by rw [hsz2]; omega) hbz2 hrow2 ?hrn (by omega)
    (fun k W => (∃ v, W.heap[w1.heap.size]? = some (.cells #[v] 33 (0, 0)) ∧ W.ownsRow (w1.heap.size + 5) 3 1 v (instTo z (d * 1440 + m) k).length ((instTo z (d * 1440 + m) k).map (Value.int .i64))) ∧
      W.heap[w.heap.size + 1]? = some (.cells #[.int .i64 d] 3 (0, 0)) ∧ W.heap[w.heap.size + 1 + 1]? = some (.cells #[.int .i64 m] 3 (0, 0)) ∧ Below w.heap.size w W)
    (fun _ _ _ => False)
    ?hia ?his ?hip ?hix ⟨⟨_, hb7, World.ownsRow_nil _ _ _ _⟩, hbd2, hbm2, hbel2⟩ 17 8 ?hassign ?hbody ?hdone ?hstop
  case hrn =>
    intro g o e hp
    obtain ⟨g', o', hA, hg, _⟩ := HROW.out hp
    rw [e] at hA; injection hA with hA; injection hA with e1 _ _
    omega
  case hia =>
    rintro k W o ⟨⟨v, h1, h2⟩, h3, h4, h5⟩
    exact ⟨⟨v, blk_alloc h1 o, own_keep h2 ((Below.refl _ _).alloc (Nat.le_refl _) o)⟩, blk_alloc h3 o, blk_alloc h4 o, h5.alloc h5.size o⟩
  case his =>
    rintro k W a v ha ⟨⟨v', h1, h2⟩, h3, h4, h5⟩
    rw [hsz2] at ha
    exact ⟨⟨v', blk_far h1 (by omega) v, ownsRow_setCell_below h2 (by omega) v⟩, blk_far h3 (by omega) v, blk_far h4 (by omega) v, h5.setCell (by omega) v⟩
  case hip =>
    rintro k W i o hi ⟨⟨v', h1, h2⟩, h3, h4, h5⟩
    rw [hsz2] at hi
    refine ⟨⟨v', by rw [World.putObj_heap_other (by omega)]; exact h1, own_put h2 (by omega) o⟩, by rw [World.putObj_heap_other (by omega)]; exact h3, by rw [World.putObj_heap_other (by omega)]; exact h4, h5.trans ⟨rfl, rfl, rfl, by simp [World.putObj], fun k hk => World.putObj_heap_other (by omega)⟩⟩
  case hix => intro c k W i o hi h; exact h
  case hassign =>
    intro k W K hK
    simp only [stv, stc] at hK ⊢
    gi_wp2
    exact hK
  case hbody =>
    rintro k b W hk ⟨⟨v, i1, i2⟩, i3, i4, i5⟩ hb hbb
    rw [hsz2] at hbb
    simp only [stv, stc] at hb ⊢
    have s0 : W.cell? ⟨b, 0, none⟩ = some (.int .i64 (frm z k)) := cell_of_blk hb 0
    have s1 : W.cell? ⟨b, 1, none⟩ = some (.int .i64 (tto z k)) := cell_of_blk hb 1
    have s2 : W.cell? ⟨b, 2, none⟩ = some (.int .i64 (ofs z k)) := cell_of_blk hb 2
    have s3 : W.cell? ⟨w1.heap.size, 0, none⟩ = some v := cell_of_blk i1 0
    have s4 : W.cell? ⟨w.heap.size + 1, 0, none⟩ = some (.int .i64 d) := cell_of_blk i3 0
    have s5 : W.cell? ⟨w.heap.size + 1 + 1, 0, none⟩ = some (.int .i64 m) := cell_of_blk i4 0
    have f3 := froz_of_blk i1 0
    have hof := HO.out k
    have hle := instTo_len z (d * 1440 + m) k
    have hck : cnt z ≤ 41 := by unfold cnt; omega
    obtain ⟨A2, cap2, rfl⟩ := own_form i2
    have HI1 := Lib.hid i1; have HI2 := Lib.hid i2; have HI3 := Lib.hid i3; have HI4 := Lib.hid i4; have HI5 := Lib.hid i5
    have hbl := lt_of_blk hb
    clear i1 i2 i3 i4 i5
    have hcase : (frm z k ≤ d * 1440 + m - ofs z k ∧ d * 1440 + m - ofs z k < tto z k) ∨ (frm z k ≤ d * 1440 + m - ofs z k ∧ tto z k ≤ d * 1440 + m - ofs z k) ∨ d * 1440 + m - ofs z k < frm z k := by omega
    rcases hcase with ⟨q1, q2⟩ | ⟨q1, q2⟩ | q1
    · have HST : Hid (instTo z (d * 1440 + m) (k + 1) = instTo z (d * 1440 + m) k ++ [d * 1440 + m - ofs z k]) := by show _ = _; rw [instTo, if_pos ⟨q1, q2⟩]
      gi_wp2_with (gi_at_builtin; refine wpListIn_append_own _ rfl _ _ 33 rfl (w1.heap.size + 5) 3 i0 _ 1 8 Try.underlying33 hi hz0 hz1 hz2 rfl (by decide) _ _ _ rfl (own_keep HI2.out ((Below.refl _ _).alloc (Nat.le_refl _) _)) ⟨W.heap.size, 0, none⟩ 1 1 [.int .i64 (d * 1440 + m - ofs z k)] rfl rfl ?c1 ?c2 ?c3 ?c4 ?c5 ?_)
      case c1 => exact cells_new1 _ _ _ _ rfl
      case c2 => intro u hu; simp at hu; subst hu; rfl
      case c3 => simp only [maxLen]; omega
      case c4 => omega
      case c5 => simp only [World.size_alloc]; omega
      intro v3 w3 hown3 hg3 hnil3
      obtain ⟨A3, cap3, rfl⟩ := own_form hown3
      have hne : ∀ g, (Value.slice A2 (instTo z (d * 1440 + m) k).length cap2).ownBlock = some g → w1.heap.size + 5 ≤ g ∧ ∃ cur, W.heap[g]? = some (.cells cur 3 (0, 0)) := fun g hg => own_type HI2.out hg
      have hkb : ∀ (i : Nat) (o : Obj), W.heap[i]? = some o → (∀ cur, o ≠ .cells cur 3 (0, 0)) ∨ i < w1.heap.size + 5 → w3.heap[i]? = some o := by
        intro i o ho hor
        rw [hg3.block i (by simp only [World.size_alloc]; have := lt_of_blk ho; omega) (fun e => ?_)]
        · exact blk_alloc ho _
        · obtain ⟨g1, cur, g2⟩ := hne i e.symm
          rcases hor with hor | hor
          · rw [ho] at g2; injection g2 with g2; exact hor cur g2
          · omega
      have hb7' := hkb _ _ HI1.out (.inr (by omega))
      have u3 : w3.cell? ⟨w1.heap.size, 0, none⟩ = some (.slice A2 (instTo z (d * 1440 + m) k).length cap2) := cell_of_blk hb7' 0
      have uf3 := froz_of_blk hb7' 0
      have HKB := Lib.hid hkb
      have HB7 := Lib.hid hb7'
      have HO3 := Lib.hid hown3
      have HG3 := Lib.hid hg3
      have HNE := Lib.hid hne
      clear hkb hb7' hown3 hg3 hne hnil3
      gi_wp2_with fail
      have hbel3 : Below w.heap.size W w3 := ((Below.refl _ W).alloc (by omega) _).grown HG3.out (by simp only [World.size_alloc]; omega) (fun g hg => by have := (HNE.out g hg).1; omega)
      refine ⟨⟨⟨_, blk_set HB7.out 0 _, ?_⟩, ?_, ?_, ?_⟩, ⟨?_, ?_⟩, ?_, ?_⟩
      · rw [HST.out, List.length_append, List.map_append]
        exact ownsRow_setCell_below HO3.out (by show w1.heap.size < _; omega) _
      · exact blk_far (HKB.out _ _ HI3.out (.inr (by omega))) (by show _ ≠ w1.heap.size; omega) _
      · exact blk_far (HKB.out _ _ HI4.out (.inr (by omega))) (by show _ ≠ w1.heap.size; omega) _
      · exact (HI5.out.trans hbel3).setCell (by show w.heap.size ≤ w1.heap.size; omega) _
      · exact hbel3.setCell (by show w.heap.size ≤ w1.heap.size; omega) _
      · intro i cs t f ht hh
        have hne7 : i ≠ w1.heap.size := by
          rintro rfl
          rw [HI1.out] at hh
          injection hh with hh
          injection hh with _ hh2 _
          subst hh2
          rcases ht with ht | ht | ht <;> cases ht
        refine blk_far (HKB.out _ _ hh (.inl (fun cur e => ?_))) hne7 _
        injection e with _ e2 _
        subst e2
        rcases ht with ht | ht | ht <;> cases ht
      · rw [Below.heap_setCell _ _ _ _ (by show _ ≠ w1.heap.size; rw [hsz2]; omega), hsz2, HG3.out.block _ (by simp only [World.size_alloc]; omega) (fun e => by have := (HNE.out _ e.symm).1; omega), Below.heap_alloc _ _ _ (by omega)]
      · rw [Below.heap_setCell _ _ _ _ (by show _ ≠ w1.heap.size; rw [hsz2]; omega), hsz2, HG3.out.block _ (by simp only [World.size_alloc]; omega) (fun e => by have := (HNE.out _ e.symm).1; omega), Below.heap_alloc _ _ _ (by omega)]
    · have HST : Hid (instTo z (d * 1440 + m) (k + 1) = instTo z (d * 1440 + m) k) := by show _ = _; rw [instTo, if_neg (by omega), List.append_nil]
      gi_wp2
      refine ⟨⟨⟨_, HI1.out, ?_⟩, HI3.out, HI4.out, HI5.out⟩, Keep.refl _ _, rfl, rfl⟩
      rw [HST.out]; exact HI2.out
    · have HST : Hid (instTo z (d * 1440 + m) (k + 1) = instTo z (d * 1440 + m) k) := by show _ = _; rw [instTo, if_neg (by omega), List.append_nil]
      gi_wp2
      refine ⟨⟨⟨_, HI1.out, ?_⟩, HI3.out, HI4.out, HI5.out⟩, Keep.refl _ _, rfl, rfl⟩
      rw [HST.out]; exact HI2.out
  case hdone =>
    rintro W ⟨⟨v, i1, i2⟩, i3, i4, i5⟩ hD
    rw [hsz2] at hD
    have hlt := lt_of_blk hD
    obtain ⟨A2, cap2, rfl⟩ := own_form i2
    have s3 : W.cell? ⟨w1.heap.size, 0, none⟩ = some (.slice A2 (instTo z (d * 1440 + m) (cnt z)).length cap2) := cell_of_blk i1 0
    have HI2 := Lib.hid i2
    have HI5 := Lib.hid i5
    have HD := Lib.hid hD
    clear i1 i2 i3 i4 i5 hD
    gi_wp2
    try rw [hsz2]
    refine ⟨by simp, .inl ⟨_, _, rfl, run_takeDeferred HD.out, ?_⟩⟩
    exact ⟨_, results_tmp rfl _ _ _, ⟨A2, cap2, rfl, own_base (own_put HI2.out (by omega) _) (by omega)⟩, HI5.out.trans ⟨rfl, rfl, rfl, by simp [World.putObj], fun k hk => World.putObj_heap_other (by omega)⟩⟩
  case hstop => intro c k W hk h; exact h.elim
end Go.Proofs.Ytmjidplondkomaa.Zn
