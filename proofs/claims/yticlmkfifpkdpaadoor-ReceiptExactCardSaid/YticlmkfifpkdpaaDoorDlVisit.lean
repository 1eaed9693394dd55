/-
  deadline.visit: what it hands to whatever loop body keeps its memory.
-/
import Derived.RangeFuncNested
import Derived.RangeFuncBound
import Derived.RangeFuncCalls
import Derived.RangeFuncLeaves
import Derived.Shelf.Abstract
import Derived.Shelf.RegionOpen
import Derived.WalkKit
import Derived.OwnWalkIn
import Derived.TacticsInMore
import Derived.LoopNIn
import Derived.LoopIn
import Derived.Lib.Hide
import Derived.Outline
import Derived.Test.YticlmkfifpkdpaaDoorDlTree
namespace Go.Proofs.YticlmkfifpkdpaaDoor.Dl
open Go.RowKit Go.Shelf Mem Vw
set_option linter.unusedVariables false
set_option linter.unusedSimpArgs false
attribute [local go_sem] Oper.semAt_some

theorem yield_any {m m' : Nat} {P : Program} {l : Nat} {args : Array Value} {W : World} {R : Ending → World → Prop} (h : YieldAt Fence.wide m P l args W R) : YieldAt Fence.wide m' P l args W R := by
  obtain ⟨fn, tmps, assign, body, h1, h2, h3⟩ := h
  exact ⟨fn, tmps, assign, body, h1, h2, fun c cs _ => h3 c cs (room_wide _)⟩
/-- What a loop's body keeps of the iterator's memory: every term's box from a block on. -/
structure TK (s0 : Nat) (W W' : World) : Prop where
  size : W.heap.size ≤ W'.heap.size
  typ : ∀ (k : Nat) (cs : Array Value) (f : Nat × Nat), s0 ≤ k → W.heap[k]? = some (.cells cs 31 f) → W'.heap[k]? = some (.cells cs 31 f)
theorem TK.refl (s0 : Nat) (W : World) : TK s0 W W := ⟨Nat.le_refl _, fun _ _ _ _ h => h⟩
theorem TK.trans {s0 : Nat} {A B C : World} (h : TK s0 A B) (k : TK s0 B C) : TK s0 A C := ⟨Nat.le_trans h.size k.size, fun i cs f hi hc => k.typ i cs f hi (h.typ i cs f hi hc)⟩
theorem TK.of_below {s0 : Nat} {W W' : World} (h : Below W.heap.size W W') : TK s0 W W' := ⟨h.size, fun k cs f _ hc => (h.block k (lt_of_blk hc)).trans hc⟩
theorem TK.of_fr {s0 : Nat} {W W' : World} (h : Fr (fun k => k < s0) W W') : TK s0 W W' := ⟨h.size, fun k cs f hk hc => (h.block k (lt_of_blk hc) (by omega)).trans hc⟩
theorem TK.mono {s0 s1 : Nat} {W W' : World} (h : TK s0 W W') (hs : s0 ≤ s1) : TK s1 W W' := ⟨h.size, fun k cs f hk hc => h.typ k cs f (by omega) hc⟩
def VR (s0 d : Nat) (kids : List Term) (r : List (Nat × Term)) (J : List (Nat × Term) → World → Prop) (W : World) (iv : Value) (wr : World) : Prop :=
  ∃ i : Nat, iv = .int .i64 i ∧ i ≤ kids.length ∧ Hid (J (nodesL (d + 1) (kids.drop i) ++ r) wr) ∧ Hid (TK s0 W wr)
set_option maxRecDepth 100000 in
set_option maxHeartbeats 4000000 in
theorem visit_in (m l s0 : Nat) (Wb : World) (J : List (Nat × Term) → World → Prop) (Jx : World → Prop)
    (hJ : ∀ r W W', J r W → s0 ≤ W.heap.size → Below W.heap.size W W' → J r W')
    (hb : ∀ r W, J r W → Below Wb.heap.size Wb W)
    (hY : ∀ (d : Nat) (u : Term) (xv : Value) (r : List (Nat × Term)) (W : World), s0 ≤ W.heap.size → Tree Wb u xv → J ((d, u) :: r) W → YieldAt Fence.wide m Tryd.prog l #[.int .i64 d, .agg (tc (u, xv)).toArray] W fun e W' => TK s0 W W' ∧ ((e = .returned (.bool true) ∧ d ≤ 10 ∧ J r W') ∨ (e = .returned (.bool false) ∧ Jx W'))) :
    ∀ (t : Term) (tv : Value) (d : Nat) (r : List (Nat × Term)) (W : World), s0 ≤ W.heap.size → Wb.heap.size ≤ s0 → d ≤ 100 → Tree Wb t tv → J (nodes d t ++ r) W →
      CallsIn Fence.wide m Tryd.prog 65 #[.agg (tc (t, tv)).toArray, .int .i64 d, .func (.yield l) #[] #[]] W fun e W' => TK s0 W W' ∧ ((e = .returned (.bool true) ∧ J r W') ∨ (e = .returned (.bool false) ∧ Jx W')) := by
  refine Term.ind ?_
  intro k n e b kids ih tv d r W hs hsb hd hT h0
  obtain ⟨ks, hks, hrow, htree⟩ := hT.kids
  have hks : ks.map Prod.fst = kids := hks
  have HKS := Lib.hid hks
  obtain ⟨A, cp, hv1, hc1, hc2⟩ := hT.slice
  have hv1 : tv = .slice A kids.length cp := hv1
  have hc1 : kids.length ≤ cp := hc1
  have hkl : kids.length ≤ 9223372036854775807 := by omega
  subst hv1
  have HT := Lib.hid hT
  have HIH := Lib.hid ih; have HJ := Lib.hid hJ; have HB := Lib.hid hb; have HYY := Lib.hid hY; have HROW := Lib.hid hrow; have HTR := Lib.hid htree
  have HS0 := Lib.hid hs; have HSB := Lib.hid hsb
  rw [nodes_mk, List.cons_append] at h0
  have h0 : J ((d, Term.mk k n e b kids) :: (nodesL (d + 1) kids ++ r)) W := h0
  obtain ⟨w0, HW0⟩ : ∃ w0, Hid (W.alloc (.cells #[.int .i64 k, .int .i64 n, .int .i64 e, .bool b, .slice A kids.length cp] 31) = w0) := ⟨_, rfl⟩
  have HBT : Hid (w0.heap[W.heap.size]? = some (.cells #[.int .i64 k, .int .i64 n, .int .i64 e, .bool b, .slice A kids.length cp] 31 (0, 0))) := by rw [← HW0.out]; exact blk_newn rfl
  have HBE : Hid (Below W.heap.size W w0) := by rw [← HW0.out]; exact (Below.refl _ W).alloc (Nat.le_refl _) _
  have HJ0 : Hid (J ((d, Term.mk k n e b kids) :: (nodesL (d + 1) kids ++ r)) w0) := HJ.out _ _ _ h0 hs HBE.out
  have HSW : Hid (s0 ≤ w0.heap.size) := Nat.le_trans hs HBE.out.size
  obtain ⟨fn, tmps, assign, body, hy, hR⟩ := yield_any (m' := m - 1) (HYY.out d _ _ _ w0 HSW.out hT HJ0.out)
  have hy : (Instr.yield l #[.int .i64 d, .agg #[.int .i64 k, .int .i64 n, .int .i64 e, .bool b, .slice A kids.length cp]]).run Tryd.prog w0 = .ok (.round l fn tmps assign body) w0 := hy
  rw [← HW0.out] at hR
  have HRR := Lib.hid hR
  clear hks hrow htree hT ih hJ hb hY h0 hs hsb hR
  have q0 : w0.cell? ⟨W.heap.size, 0, none⟩ = some (.int .i64 k) := cell_of_blk HBT.out 0
  have q1 : w0.cell? ⟨W.heap.size, 1, none⟩ = some (.int .i64 n) := cell_of_blk HBT.out 1
  have q2 : w0.cell? ⟨W.heap.size, 2, none⟩ = some (.int .i64 e) := cell_of_blk HBT.out 2
  have q3 : w0.cell? ⟨W.heap.size, 3, none⟩ = some (.bool b) := cell_of_blk HBT.out 3
  have q4 : w0.cell? ⟨W.heap.size, 4, none⟩ = some (.slice A kids.length cp) := cell_of_blk HBT.out 4
  rw [← HW0.out] at hy q0 q1 q2 q3 q4
  show CallsIn Fence.wide m Tryd.prog 65 #[.agg #[.int .i64 k, .int .i64 n, .int .i64 e, .bool b, .slice A kids.length cp], .int .i64 d, .func (.yield l) #[] #[]] W _
  refine callsIn_of_wp Tryd.func65 rfl trivial ?_ rfl
  simp only [Tryd.ntmps65, List.size_toArray, List.length_cons, List.length_nil, Nat.reduceAdd, Nat.reduceSub, Array.replicate_succ, Array.replicate_zero, List.push_toArray, List.append_toArray, List.nil_append, List.cons_append]
  gi_wp2
  refine ⟨(by intro h; cases h), HRR.out.mono ?_⟩
  rintro e9 w1 ⟨hf1, ⟨rfl, hd1, hj1⟩ | ⟨rfl, hjx⟩⟩ <;> rw [HW0.out] at hf1
  · have HF1 : Hid (TK s0 W w1) := ((TK.of_below HBE.out).trans hf1)
    have HJ1 := Lib.hid hj1
    have HBT1 := Lib.hid (hf1.typ _ _ _ HS0.out HBT.out)
    have HSW1 : Hid (W.heap.size < w1.heap.size) := lt_of_blk HBT1.out
    clear hf1 hj1 hy q0 q1 q2 q3 q4
    have q4 : w1.cell? ⟨W.heap.size, 4, none⟩ = some (.slice A kids.length cp) := cell_of_blk HBT1.out 4
    gi_wp2
    gi_loopw [17] (fun iv wr => VR s0 d kids r J w1 iv wr) (fun iv _ => kids.length - (intOf iv).toNat)
    case atStart => exact ⟨0, rfl, by omega, HJ1.out, TK.refl _ w1⟩
    case round =>
      obtain ⟨i, rfl, hi, HJW, HFW⟩ := hrel
      have HSZ : Hid (s0 ≤ wr.heap.size) := by have h1 := HFW.out.size; have h2 := HF1.out.size; have h3 := HS0.out; exact Nat.le_trans h3 (Nat.le_trans h2 h1)
      by_cases hlt : i < kids.length
      · have hkl2 : i < ks.length := by rw [← HKS.out, List.length_map] at hlt; exact hlt
        obtain ⟨x, hx⟩ : ∃ x, ks[i]? = some x := ⟨_, List.getElem?_eq_getElem hkl2⟩
        have HX := Lib.hid hx
        have HXM : Hid (x ∈ ks) := List.mem_of_getElem? hx
        have HXK : Hid (kids[i]? = some x.1) := by show _ = _; rw [← HKS.out, List.getElem?_map, hx]; rfl
        have HBW := Lib.hid (HB.out _ _ HJW.out)
        obtain ⟨g, o, cg, hvv, hg, _, _, hrr⟩ := HROW.out.at (by intro h; have h2 := congrArg List.length h; rw [List.length_map] at h2; simp at h2; rw [h2] at hkl2; exact absurd hkl2 (by simp))
        injection hvv with hvv1 hvv2 hvv3
        subst hvv1 hvv3
        have hat := hrr i (tc x) (by rw [List.getElem?_map, hx]; rfl)
        have hcell : ∀ j v, (tc x)[j]? = some v → wr.cell? ⟨g, o + i * 5 + j, none⟩ = some v := fun j v hj => (World.cell?_of_block (a := ⟨g, o + i * 5 + j, none⟩) (HBW.out.block g hg)).trans (hat j v hj)
        have q0 := hcell 0 _ rfl; have q1 := hcell 1 _ rfl; have q2 := hcell 2 _ rfl; have q3 := hcell 3 _ rfl; have q5 := hcell 4 _ rfl
        rw [Nat.add_zero] at q0
        clear hrr hat hcell hx hvv2 q4
        obtain ⟨x, xv⟩ := x
        obtain ⟨xk, xn, xe, xb, xl⟩ := x
        dsimp only [Term.kind, Term.n, Term.ev, Term.bus, nv] at q0 q1 q2 q3 q5
        have HXT := Lib.hid (HTR.out _ HXM.out)
        obtain ⟨Ax, cx, hxv, hxc1, hxc2⟩ := HXT.out.slice
        have hxv : xv = .slice Ax xl.length cx := hxv
        subst hxv
        have HDR : Hid (kids.drop i = .mk xk xn xe xb xl :: kids.drop (i + 1)) := by
          show _ = _
          obtain ⟨hk, e1⟩ := List.getElem?_eq_some_iff.1 HXK.out
          rw [List.drop_eq_getElem_cons hk, e1]
        obtain ⟨w2, HW2⟩ : ∃ w2, Hid (wr.alloc (.cells #[.int .i64 xk, .int .i64 xn, .int .i64 xe, .bool xb, .slice Ax xl.length cx] 31) = w2) := ⟨_, rfl⟩
        have HB2 : Hid (Below wr.heap.size wr w2) := by rw [← HW2.out]; exact (Below.refl _ wr).alloc (Nat.le_refl _) _
        have HJ2 : Hid (J (nodes (d + 1) (.mk xk xn xe xb xl) ++ (nodesL (d + 1) (kids.drop (i + 1)) ++ r)) w2) := by
          have h := HJ.out _ _ _ HJW.out HSZ.out HB2.out
          rw [HDR.out, nodesL, List.append_assoc] at h
          exact h
        have hcall := (callsIn_wide (n := m - 1)).2 (callsIn_wide.1 (HIH.out (.mk xk xn xe xb xl) (List.mem_of_getElem? HXK.out) (.slice Ax xl.length cx) (d + 1) (nodesL (d + 1) (kids.drop (i + 1)) ++ r) w2 (Nat.le_trans HSZ.out HB2.out.size) HSB.out (by omega) HXT.out HJ2.out))
        rw [← HW2.out] at hcall
        have HCALL := Lib.hid hcall; clear hcall
        gi_wp2
        refine ⟨trivial, (by intro h; cases h), CallsIn.mono HCALL.out ?_⟩
        rintro e9 w3 ⟨hf3, hj3⟩
        rw [HW2.out] at hf3
        have HF3 : Hid (TK s0 w1 w3) := (HFW.out.trans (TK.of_below HB2.out)).trans hf3
        clear hf3 HCALL q0 q1 q2 q3 q5
        rcases hj3 with ⟨rfl, hj3⟩ | ⟨rfl, hj3⟩
        · have HJ3 := Lib.hid hj3; clear hj3
          gi_wp2
          go_roundw
          case rel => exact ⟨i + 1, by go_num, by omega, HJ3.out, HF3.out⟩
          case measure => simp [intOf]; omega
        · have HJ3 := Lib.hid hj3; clear hj3
          gi_wp2
          go_ret
          exact ⟨HF1.out.trans HF3.out, .inr ⟨rfl, HJ3.out⟩⟩
      · have hie : i = kids.length := by omega
        subst hie
        have HJE : Hid (J r wr) := by have h := HJW.out; rw [List.drop_length, nodesL, List.nil_append] at h; exact h
        gi_wp2
        go_ret
        exact ⟨HF1.out.trans HFW.out, .inl ⟨rfl, HJE.out⟩⟩
  · have HF1 : Hid (TK s0 W w1) := ((TK.of_below HBE.out).trans hf1)
    have HJ1 := Lib.hid hjx
    clear hf1 hjx hy q0 q1 q2 q3 q4
    gi_wp2
    go_ret
    exact ⟨HF1.out, .inr ⟨rfl, HJ1.out⟩⟩
end Go.Proofs.YticlmkfifpkdpaaDoor.Dl
