/-
  deadline.Events walked.
-/
import Derived.Test.YticlmkfifpkdpaaDoorDlEvs
import Derived.Test.YticlmkfifpkdpaaDoorDlEvPlain
import Derived.Test.YticlmkfifpkdpaaDoorShelf
import Derived.Sort.OwnSortedInts
import Derived.Lib.OwnBridge
import Derived.Maps.AppendAt
namespace Go.Proofs.YticlmkfifpkdpaaDoor.Dl
open Go.RowKit Go.Shelf Go.Sort Mem Vw
set_option linter.unusedVariables false
set_option linter.unusedSimpArgs false
attribute [local go_sem] Oper.semAt_some
theorem own_put {w : World} {base : Nat} {e : TypeId} {size : Nat} {v : Value} {n : Nat} {xs : List Value} (h : w.ownsRow base e size v n xs) {i : Nat} (hi : i < base) (o : Obj) : (w.putObj i o).ownsRow base e size v n xs := by
  obtain ⟨h1, h2⟩ := h
  refine ⟨h1, ?_⟩
  rcases h2 with h2 | ⟨g, cap, cur, hv, hg, hh, r⟩
  · exact .inl h2
  · exact .inr ⟨g, cap, cur, hv, hg, by rw [World.putObj_heap_other (by omega)]; exact hh, r⟩
theorem own_base {w : World} {base base' : Nat} {e : TypeId} {size : Nat} {v : Value} {n : Nat} {xs : List Value} (h : w.ownsRow base e size v n xs) (hb : base' ≤ base) : w.ownsRow base' e size v n xs := by
  refine ⟨h.1, ?_⟩
  rcases h.2 with h2 | ⟨g, cap, cur, hv, hg, r⟩
  · exact .inl h2
  · exact .inr ⟨g, cap, cur, hv, by omega, r⟩
theorem own_form {w : World} {base : Nat} {e : TypeId} {size : Nat} {v : Value} {n : Nat} {xs : List Value} (h : w.ownsRow base e size v n xs) : ∃ A cap, v = .slice A n cap := by
  rcases h.2 with ⟨rfl, rfl⟩ | ⟨g, cap, cur, rfl, _⟩
  · exact ⟨none, 0, rfl⟩
  · exact ⟨_, cap, rfl⟩
theorem own_keep {w w1 : World} {base : Nat} {e : TypeId} {size : Nat} {v : Value} {n : Nat} {xs : List Value} (h : w.ownsRow base e size v n xs) (hb : Below w.heap.size w w1) : w1.ownsRow base e size v n xs := by
  refine ⟨h.1, ?_⟩
  rcases h.2 with h2 | ⟨g, cap, cur, hv, hg, hh, r⟩
  · exact .inl h2
  · exact .inr ⟨g, cap, cur, hv, hg, by rw [hb.block g (lt_of_blk hh)]; exact hh, r⟩
theorem own_type {w : World} {base : Nat} {e : TypeId} {size : Nat} {v : Value} {n : Nat} {xs : List Value} (h : w.ownsRow base e size v n xs) {g : Nat} (hg : v.ownBlock = some g) : base ≤ g ∧ ∃ cur, w.heap[g]? = some (.cells cur e (0, 0)) := by
  rcases h.2 with ⟨rfl, _⟩ | ⟨g', cap, cur, rfl, hb, hh, _⟩
  · cases hg
  · simp only [Value.ownBlock] at hg
    injection hg with hg
    subst hg
    exact ⟨hb, cur, hh⟩
theorem cells_new1 (W : World) (v : Value) (T : TypeId) (g : Nat) (hg : g = W.heap.size) : ∀ j u, [v][j]? = some u → (W.alloc (.cells #[v] T)).cell? ((⟨g, 0, none⟩ : Addr).add j) = some u := by
  subst hg
  intro j u hu
  match j with
  | 0 => simp at hu; subst hu; simp [Addr.add]
  | j + 1 => simp at hu
def iv (n : Int) : Value := .int .i64 n
/-- The library's sort, at a row that the call owns. -/
theorem sort_own {w : World} {base : Nat} {v : Value} {l : List Int} (h : w.ownsRow base 3 1 v l.length (l.map iv)) (hl : l.length < 4611686018427387904) :
    Calls Tryd.prog 53 #[v] w fun e w' => e = .returned (.tuple #[]) ∧ w.grownBy w' v.ownBlock ∧ w'.ownsRow base 3 1 v l.length ((dsort l).map iv) := by
  rcases h.2 with ⟨rfl, h0⟩ | ⟨g, cap, cur, rfl, hg, hb, h1, h2, h3, h4⟩
  · have hn : l = [] := List.eq_nil_of_length_eq_zero h0
    subst hn
    refine (Tryd.slices_Sort_int_none none 0 w).mono ?_
    rintro e w' ⟨rfl, rfl⟩
    exact ⟨rfl, ⟨rfl, rfl, rfl, Nat.le_refl _, fun _ _ _ => rfl⟩, by simpa [dsort] using h⟩
  · have ht : cur.toList.take l.length = l.map (Value.int .i64) := by rw [Nat.mul_one] at h4; exact h4
    refine (Tryd.slices_Sort_int g 0 cap l w (holds_of_blockI hb ht) (lt_of_blk hb) hl).mono ?_
    rintro e w' ⟨rfl, n, os, rfl⟩
    refine ⟨rfl, grownBy_sortedI _, ?_⟩
    exact ownsRow_sortedI (ss := l) (ts := dsort l) (List.length_mergeSort _) hg hb h1 h2 h3
/-- The library's Compact, at a row that the call owns. -/
theorem compact_own {w : World} {base : Nat} {v : Value} {l : List Int} (h : w.ownsRow base 3 1 v l.length (l.map iv)) (hl : l.length < 4611686018427387904) :
    Calls Tryd.prog 54 #[v] w fun e w' => ∃ v', e = .returned v' ∧ (∀ B, B ≤ base → Below B w w') ∧ w'.ownsRow base 3 1 v' (Lib.compact l).length ((Lib.compact l).map iv) := by
  rcases h.2 with ⟨rfl, h0⟩ | ⟨g, cap, cur, rfl, hg, hb, h1, h2, h3, h4⟩
  · have hn : l = [] := List.eq_nil_of_length_eq_zero h0
    subst hn
    refine (Tryd.slices_Compact_int_empty none 0 w).mono ?_
    rintro e w' ⟨rfl, rfl⟩
    exact ⟨_, rfl, fun B _ => Below.refl _ _, by simpa [Lib.compact, Lib.compactUpTo] using h⟩
  · have ht : cur.toList.take l.length = l.map (Value.int .i64) := by rw [Nat.mul_one] at h4; exact h4
    refine (Tryd.slices_Compact_int g 0 cap l w (holds_of_blockI hb ht) (by omega) h1).mono ?_
    rintro e w' ⟨rfl, q, rfl⟩
    have hle := Lib.compact_length_le l
    refine ⟨_, rfl, fun B hB => Lib.below_putRow (Below.refl _ w) (Nat.le_trans hB hg), ?_⟩
    have hc := Lib.ownsRow_putRow (enc := iv) (q := q) (k := (Lib.compact l).length) (ys := Lib.compact l ++ List.replicate (l.length - (Lib.compact l).length) 0) h (by simp; omega) hle
    rw [List.take_left] at hc
    exact hc
/-- What a round of the loop holds. -/
structure EI (W : World) (b3 base : Nat) (all : List (Nat × Term)) (r : List (Nat × Term)) (X : World) : Prop where
  be : Below W.heap.size W X
  pre : ∃ (pre : List (Nat × Term)) (v : Value), all = pre ++ r ∧ X.heap[b3]? = some (.cells #[v] 26 (0, 0)) ∧ X.ownsRow base 3 1 v (evl pre).length ((evl pre).map iv)
/-- What the call ends with. -/
def EvRes (W : World) (t : Term) (e : Ending) (w' : World) : Prop :=
  ∃ v l, e = .returned v ∧ (valid t 1000 = true → l = evs t) ∧ (valid t 1000 = false → l = []) ∧ w'.ownsRow W.heap.size 3 1 v l.length (l.map iv) ∧ Below W.heap.size W w'
set_option maxRecDepth 100000 in
set_option maxHeartbeats 4000000 in
theorem events_any (t : Term) (tv : Value) (W : World) (hT : Tree W t tv) :
    Calls Tryd.prog 29 #[.agg (tc (t, tv)).toArray] W (EvRes W t) := by
  refine (callsIn_wide (n := 70)).1 ?_
  have HT := Lib.hid hT
  obtain ⟨i0, hi, hz0, hz1, hz2⟩ := info_parts info_int
  obtain ⟨A, cp, hv1, hc1, hc2⟩ := hT.slice
  subst hv1
  clear hT
  obtain ⟨k, n, e, b, kids⟩ := t
  show CallsIn Fence.wide 70 Tryd.prog 29 #[.agg #[.int .i64 k, .int .i64 n, .int .i64 e, .bool b, .slice A kids.length cp]] W _
  obtain ⟨w0, HW0⟩ : ∃ w0, Hid (W.alloc (.cells #[.int .i64 k, .int .i64 n, .int .i64 e, .bool b, .slice A kids.length cp] 31) = w0) := ⟨_, rfl⟩
  have HBE : Hid (Below W.heap.size W w0) := by rw [← HW0.out]; exact (Below.refl _ W).alloc (Nat.le_refl _) _
  have HB0 : Hid (w0.heap[W.heap.size]? = some (.cells #[.int .i64 k, .int .i64 n, .int .i64 e, .bool b, .slice A kids.length cp] 31 (0, 0))) := by rw [← HW0.out]; exact blk_newn rfl
  have q0 : w0.cell? ⟨W.heap.size, 0, none⟩ = some (.int .i64 k) := cell_of_blk HB0.out 0
  have q1 : w0.cell? ⟨W.heap.size, 1, none⟩ = some (.int .i64 n) := cell_of_blk HB0.out 1
  have q2 : w0.cell? ⟨W.heap.size, 2, none⟩ = some (.int .i64 e) := cell_of_blk HB0.out 2
  have q3 : w0.cell? ⟨W.heap.size, 3, none⟩ = some (.bool b) := cell_of_blk HB0.out 3
  have q4 : w0.cell? ⟨W.heap.size, 4, none⟩ = some (.slice A kids.length cp) := cell_of_blk HB0.out 4
  rw [← HW0.out] at q0 q1 q2 q3 q4
  have HVA := Lib.hid (valid_any (.mk k n e b kids) (.slice A kids.length cp) 1000 w0 (HT.out.keep HBE.out))
  refine callsIn_of_wp_marks Tryd.func29 rfl trivial ?_ rfl
  simp only [Tryd.ntmps29, List.size_toArray, List.length_cons, List.length_nil, Nat.reduceAdd, Nat.reduceSub, Array.replicate_succ, Array.replicate_zero, List.push_toArray, List.append_toArray, List.nil_append, List.cons_append]
  gi_wp2_with fail
  rw [HW0.out]
  refine ⟨trivial, (callsIn_wide.2 HVA.out).mono ?_⟩
  rintro e9 w1 ⟨rfl, hb1⟩
  have HB1 : Hid (Below w0.heap.size w0 w1) := hb1
  have HW1 : Hid (Below W.heap.size W w1) := HBE.out.trans (hb1.mono HBE.out.size)
  clear hb1 q0 q1 q2 q3 q4 HVA
  cases hv : valid (.mk k n e b kids) 1000
  · have HV := Lib.hid hv; clear hv
    gi_wp2_with fail
    exact ⟨_, results_tmp rfl _ _ _, _, [], rfl, (fun h => by rw [HV.out] at h; cases h), (fun _ => rfl), ⟨rfl, .inl ⟨rfl, rfl⟩⟩, HW1.out⟩
  · have HV := Lib.hid hv; clear hv
    obtain ⟨w2, HW2⟩ : ∃ w2, Hid (w1.alloc (.cells #[.slice none 0 0] 26) = w2) := ⟨_, rfl⟩
    have HW12 : Hid (Below w1.heap.size w1 w2) := by rw [← HW2.out]; exact (Below.refl _ w1).alloc (Nat.le_refl _) _
    have HB3 : Hid (w2.heap[w1.heap.size]? = some (.cells #[.slice none 0 0] 26 (0, 0))) := by rw [← HW2.out]; exact blk_newn rfl
    have HW02 : Hid (Below w0.heap.size w0 w2) := HB1.out.trans (HW12.out.mono HB1.out.size)
    have hb0 := (HW02.out.block _ (lt_of_blk HB0.out)).trans HB0.out
    have q0 : w2.cell? ⟨W.heap.size, 0, none⟩ = some (.int .i64 k) := cell_of_blk hb0 0
    have q1 : w2.cell? ⟨W.heap.size, 1, none⟩ = some (.int .i64 n) := cell_of_blk hb0 1
    have q2 : w2.cell? ⟨W.heap.size, 2, none⟩ = some (.int .i64 e) := cell_of_blk hb0 2
    have q3 : w2.cell? ⟨W.heap.size, 3, none⟩ = some (.bool b) := cell_of_blk hb0 3
    have q4 : w2.cell? ⟨W.heap.size, 4, none⟩ = some (.slice A kids.length cp) := cell_of_blk hb0 4
    rw [← HW2.out] at q0 q1 q2 q3 q4
    have HND := Lib.hid (nodes_any (.mk k n e b kids, .slice A kids.length cp) w2)
    clear hb0
    gi_wp2_with fail
    rw [HW2.out]
    refine ⟨trivial, (callsIn_wide.2 HND.out).mono ?_⟩
    rintro e7 w3 ⟨rfl, hw3⟩
    have HW3 : Hid (Below w2.heap.size w2 w3) := by rw [hw3]; exact (Below.refl _ w2).alloc (Nat.le_refl _) _
    have HBT : Hid (w3.heap[w2.heap.size]? = some (termo (.mk k n e b kids) (.slice A kids.length cp))) := by rw [hw3]; exact blk_new w2 _
    have HSZ : Hid (w3.heap.size = w2.heap.size + 1) := by show _ = _; rw [hw3]; simp
    clear hw3 HND q0 q1 q2 q3 q4
    gi_wp2_with fail
    have hs01 := HW1.out.size
    have hs12 : w1.heap.size < w2.heap.size := lt_of_blk HB3.out
    have hs23 : w2.heap.size < w3.heap.size := by have := HSZ.out; omega
    have HWW3 : Hid (Below W.heap.size W w3) := HW1.out.trans ((HW12.out.trans (HW3.out.mono HW12.out.size)).mono hs01)
    refine range_nodes3 70 (by omega) w2.heap.size W (.mk k n e b kids) (.slice A kids.length cp) rfl HBT.out HT.out (by omega)
      (EI W w1.heap.size (w3.heap.size + 2) (nodes 1 (.mk k n e b kids)))
      (fun c X => False)
      ?hI ?hIp ?hIx ?hb ?h0 11 12 5 ?hassign ?hbody ?hdone ?hstop
    case hI =>
      rintro r X X' ⟨h1, pre, v, h2, h3, h4⟩ hx hbb
      exact ⟨h1.trans (hbb.mono (by omega)), pre, v, h2, (hbb.block _ (lt_of_blk h3)).trans h3, own_keep h4 hbb⟩
    case hIp =>
      rintro r X i o hi hl ⟨h1, pre, v, h2, h3, h4⟩
      refine ⟨h1.trans (below_putObj _ _ (by omega) hl), pre, v, h2, ?_, own_put h4 (by omega) _⟩
      rw [World.putObj_heap_other (by omega)]
      exact h3
    case hIx => intro c X i o _ _ h; exact h.elim
    case hb =>
      rintro r X h
      exact h.be
    case h0 =>
      exact ⟨HWW3.out, [], _, rfl, (HW3.out.block _ (by omega)).trans HB3.out, ⟨rfl, .inl ⟨rfl, rfl⟩⟩⟩
    case hassign =>
      intro d u xv X K hTu hK
      obtain ⟨uk, un, ue, ub, ul⟩ := u
      obtain ⟨Au, cu, hxv, _, _⟩ := hTu.slice
      subst hxv
      clear hTu
      dsimp only [tc, termo, Term.kind, Term.n, Term.ev, Term.bus, Term.kids, nv] at hK ⊢
      gi_wp2
      exact hK
    case hbody =>
      rintro d u xv r b8 X ⟨hbe, pre, v, hpre, h3, hown⟩ hTu hb8 hlb hlx
      obtain ⟨uk, un, ue, ub, ul⟩ := u
      obtain ⟨Au, cu, hxv, _, _⟩ := hTu.slice
      subst hxv
      dsimp only [tc, termo, Term.kind, Term.n, Term.ev, Term.bus, Term.kids, nv] at hb8 ⊢
      have hd10 : d ≤ 10 := (((valid_iff _ _).1 HV.out).2.2 (d, .mk uk un ue ub ul) (by rw [hpre]; simp)).1
      have hpl : pre.length ≤ 39 := by
        have h := ((valid_iff _ _).1 HV.out).2.1
        rw [hpre, List.length_append, List.length_cons] at h
        omega
      have hel := evl_len pre
      have HST : Hid (evl (pre ++ [(d, .mk uk un ue ub ul)]) = evl pre ++ if hasEv (.mk uk un ue ub ul) then [ue] else []) := by show _ = _; rw [evl_app, evl_one]; rfl
      have HPRE : Hid (nodes 1 (.mk k n e b kids) = (pre ++ [(d, .mk uk un ue ub ul)]) ++ r) := by show _ = _; rw [hpre]; simp
      have HHE := Lib.hid (hasEvent_any uk un ue ub ul (.slice Au ul.length cu) X)
      have p0 : X.cell? ⟨b8, 0, none⟩ = some (.int .i64 uk) := cell_of_blk hb8 0
      have p1 : X.cell? ⟨b8, 1, none⟩ = some (.int .i64 un) := cell_of_blk hb8 1
      have p2 : X.cell? ⟨b8, 2, none⟩ = some (.int .i64 ue) := cell_of_blk hb8 2
      have p3 : X.cell? ⟨b8, 3, none⟩ = some (.bool ub) := cell_of_blk hb8 3
      have p4 : X.cell? ⟨b8, 4, none⟩ = some (.slice Au ul.length cu) := cell_of_blk hb8 4
      have HB8 := Lib.hid hb8; have H3 := Lib.hid h3; have HOWN := Lib.hid hown; have HBX := Lib.hid hbe
      have HLB := Lib.hid hlb; have HLX := Lib.hid hlx; have HD10 := Lib.hid hd10
      clear hb8 h3 hown hbe hTu hpre hlb hlx hd10
      gi_wp2_with fail
      refine ⟨trivial, (callsIn_wide.2 HHE.out).mono ?_⟩
      rintro e6 X1 ⟨rfl, hx1⟩
      have HX1 : Hid (Below X.heap.size X X1) := hx1
      have HOWN1 : Hid (X1.ownsRow (w3.heap.size + 2) 3 1 v (evl pre).length ((evl pre).map iv)) := own_keep HOWN.out hx1
      have HB31 : Hid (X1.heap[w1.heap.size]? = some (.cells #[v] 26 (0, 0))) := (hx1.block _ (lt_of_blk H3.out)).trans H3.out
      have HB81 : Hid (X1.heap[b8]? = some (.cells #[.int .i64 uk, .int .i64 un, .int .i64 ue, .bool ub, .slice Au ul.length cu] 31 (0, 0))) := (hx1.block _ (lt_of_blk HB8.out)).trans HB8.out
      clear hx1 HHE p0 p1 p2 p3 p4
      cases hh : hasEv (.mk uk un ue ub ul)
      · have HHH := Lib.hid hh; clear hh
        gi_wp2_with fail
        have hk := TK.of_below (s0 := w3.heap.size) HX1.out
        refine ⟨⟨HBX.out.trans (HX1.out.mono HBX.out.size), _, v, HPRE.out, HB31.out, ?_⟩, HD10.out, hk, HX1.out.block _ (by have := HLX.out; omega), HX1.out.block _ (by have := HLX.out; omega)⟩
        rw [HST.out, HHH.out]
        simpa using HOWN1.out
      · have HHH := Lib.hid hh; clear hh
        obtain ⟨A2, cap2, hv2⟩ := own_form HOWN1.out
        subst hv2
        have s3 : X1.cell? ⟨w1.heap.size, 0, none⟩ = some (.slice A2 (evl pre).length cap2) := cell_of_blk HB31.out 0
        have p2 : X1.cell? ⟨b8, 2, none⟩ = some (.int .i64 ue) := cell_of_blk HB81.out 2
        gi_wp2_with (gi_at_builtin; refine wpListIn_append_own _ rfl _ _ 26 rfl (w3.heap.size + 2) 3 i0 _ 1 8 Tryd.underlying26 hi hz0 hz1 hz2 rfl (by decide) _ _ _ rfl (own_keep HOWN1.out ((Below.refl _ _).alloc (Nat.le_refl _) _)) ⟨X1.heap.size, 0, none⟩ 1 1 [.int .i64 ue] rfl rfl ?c1 ?c2 ?c3 ?c4 ?c5 ?_)
        case c1 => exact cells_new1 _ _ _ _ rfl
        case c2 => intro u hu; simp at hu; subst hu; rfl
        case c3 => simp only [maxLen]; omega
        case c4 => omega
        case c5 => simp only [World.size_alloc]; have := HX1.out.size; have := HLX.out; omega
        intro v3 X3 hown3 hg3 hnil3
        obtain ⟨A3, cap3, rfl⟩ := own_form hown3
        have hne : ∀ g, (Value.slice A2 (evl pre).length cap2).ownBlock = some g → w3.heap.size + 2 ≤ g ∧ ∃ cur, X1.heap[g]? = some (.cells cur 3 (0, 0)) := fun g hg => own_type HOWN1.out hg
        have hkb : ∀ (i : Nat) (o : Obj), X1.heap[i]? = some o → (∀ cur, o ≠ .cells cur 3 (0, 0)) ∨ i < w3.heap.size + 2 → X3.heap[i]? = some o := by
          intro i o ho hor
          rw [hg3.block i (by simp only [World.size_alloc]; have := lt_of_blk ho; omega) (fun e => ?_)]
          · exact blk_alloc ho _
          · obtain ⟨g1, cur, g2⟩ := hne i e.symm
            rcases hor with hor | hor
            · rw [ho] at g2; injection g2 with g2; exact hor cur g2
            · omega
        have hb7' := hkb _ _ HB31.out (.inr (by omega))
        have u3 : X3.cell? ⟨w1.heap.size, 0, none⟩ = some (.slice A2 (evl pre).length cap2) := cell_of_blk hb7' 0
        have uf3 := froz_of_blk hb7' 0
        have HKB := Lib.hid hkb
        have HB7 := Lib.hid hb7'
        have HO3 := Lib.hid hown3
        have HG3 := Lib.hid hg3
        have HNE := Lib.hid hne
        clear hkb hb7' hown3 hg3 hne hnil3
        gi_wp2_with fail
        have hsx := HLX.out
        have hsx1 := HX1.out.size
        have hbel3 : ∀ B, B ≤ w3.heap.size + 2 → Below B X1 X3 := fun B hB => ((Below.refl _ X1).alloc (by omega) _).grown HG3.out (by simp only [World.size_alloc]; omega) (fun g hg => by have := (HNE.out g hg).1; omega)
        have hfar : ∀ i, i < w3.heap.size + 2 → i ≠ w1.heap.size → (X3.setCell ⟨w1.heap.size, 0, none⟩ (.slice A3 ((evl pre).length + 1) cap3)).heap[i]? = X.heap[i]? := by
          intro i hi hn
          rw [Below.heap_setCell _ _ _ _ (by show _ ≠ w1.heap.size; exact hn), HG3.out.block i (by simp only [World.size_alloc]; omega) (fun e => by have := (HNE.out _ e.symm).1; omega), Below.heap_alloc _ _ _ (by omega)]
          exact HX1.out.block i (by omega)
        refine ⟨⟨?_, _, .slice A3 ((evl pre).length + 1) cap3, HPRE.out, ?_, ?_⟩, HD10.out, ⟨?_, ?_⟩, ?_, ?_⟩
        · exact ((HBX.out.trans (HX1.out.mono HBX.out.size)).trans (hbel3 _ (by omega))).setCell (by show W.heap.size ≤ w1.heap.size; omega) _
        · exact blk_set HB7.out 0 _
        · rw [HST.out, HHH.out]
          simp only [if_true, List.length_append, List.map_append, List.length_singleton, List.map_cons, List.map_nil]
          exact ownsRow_setCell_below HO3.out (by show w1.heap.size < _; omega) _
        · rw [World.size_setCell]; have := (hbel3 W.heap.size (by omega)).size; omega
        · intro i cs f hi0 hh
          have h1 := (HX1.out.block _ (lt_of_blk hh)).trans hh
          refine blk_far (HKB.out _ _ h1 (.inl (fun cur e => ?_))) (by show _ ≠ w1.heap.size; omega) _
          injection e with _ e2 _
          cases e2
        · exact (hfar _ (by omega) (by omega))
        · exact (hfar _ (by omega) (by omega))
    case hdone =>
      rintro X ⟨hbe, pre, v, hpre, h3, hown⟩ hlx hD
      rw [List.append_nil] at hpre
      subst hpre
      obtain ⟨A2, cap2, hv2⟩ := own_form hown
      subst hv2
      have hel := evs_len HV.out
      have HD := Lib.hid hD; have HBX := Lib.hid hbe; have HOWN := Lib.hid hown; have H3 := Lib.hid h3
      have s3 : X.cell? ⟨w1.heap.size, 0, none⟩ = some (.slice A2 (evl (nodes 1 (.mk k n e b kids))).length cap2) := cell_of_blk h3 0
      have HSO := Lib.hid (sort_own hown (by omega))
      clear hbe h3 hown hD
      gi_wp2_with fail
      refine ⟨trivial, (callsIn_wide.2 HSO.out).mono ?_⟩
      rintro e5 X1 ⟨rfl, hgr, hown1⟩
      have hbx1 : ∀ B, B ≤ w3.heap.size + 2 → B ≤ X.heap.size → Below B X X1 := fun B hB hB2 => (Below.refl _ X).grown hgr hB2 (fun g hg => by have := (own_type HOWN.out hg).1; omega)
      have hsl := lt_of_blk HD.out
      have s31 : X1.cell? ⟨w1.heap.size, 0, none⟩ = some (.slice A2 (evl (nodes 1 (.mk k n e b kids))).length cap2) := cell_of_blk (((hbx1 (w1.heap.size + 1) (by omega) (by omega)).block _ (by omega)).trans H3.out) 0
      have HD1 : Hid (X1.heap[w3.heap.size]? = some (.deferred (some []))) := ((hbx1 (w3.heap.size + 1) (by omega) (by omega)).block _ (by omega)).trans HD.out
      have HBX1 : Hid (Below W.heap.size X X1) := hbx1 _ (by omega) (by omega)
      have hle : (dsort (evl (nodes 1 (.mk k n e b kids)))).length = (evl (nodes 1 (.mk k n e b kids))).length := dsort_len _
      have HCO := Lib.hid (compact_own (l := dsort (evl (nodes 1 (.mk k n e b kids)))) (by rw [hle]; exact hown1) (by omega))
      clear hgr hown1 hbx1 HSO s3
      gi_wp2_with fail
      refine ⟨trivial, (callsIn_wide.2 HCO.out).mono ?_⟩
      rintro e4 X2 ⟨v2, rfl, hb2, hown2⟩
      have HB2 := Lib.hid hb2; have HOWN2 := Lib.hid hown2
      clear hb2 hown2 HCO s31
      gi_wp2_with fail
      have hsl1 := lt_of_blk HD1.out
      refine ⟨by simp, .inl ⟨_, _, rfl, run_takeDeferred (((HB2.out (w3.heap.size + 1) (by omega)).block _ (by omega)).trans HD1.out), ?_⟩⟩
      have hsz2 := (HB2.out 0 (by omega)).size
      exact ⟨_, results_tmp rfl _ _ _, _, evs (.mk k n e b kids), rfl, (fun _ => rfl), (fun h => by rw [HV.out] at h; cases h), own_base (own_put HOWN2.out (by omega) _) (by omega), (((HBX.out.trans HBX1.out).trans (HB2.out _ (by omega))).trans (below_putObj _ _ (by omega) (by omega)))⟩
    case hstop => intro c X h; exact h.elim
end Go.Proofs.YticlmkfifpkdpaaDoor.Dl
