/-
  Include: the closures of an instantiation.
-/
import Derived.Test.YticakdajhmfpoaaIncDecl
import Derived.Test.YticakdajhmfpoaaIncA
import Derived.Lib.IndexLaws
namespace Go.Proofs.Yticakdajhmfpoaa.Ic
open Go.RowKit Mem Vw Rs
open Go.ChangeMaps (setBlock)
set_option linter.unusedVariables false
set_option linter.unusedSimpArgs false

theorem ba_app (a b : Rs.Bytes) : ((⟨a.toArray⟩ : ByteArray) ++ ⟨b.toArray⟩) = ⟨(a ++ b).toArray⟩ := by
  apply ByteArray.ext
  simp
theorem cut_some_take {n : Rs.Bytes} {o : Nat} (h : Lib.indexByte n dot = o) : cut n = some (n.take o) := by
  obtain ⟨h1, h2⟩ := Lib.indexByte_some h
  exact cut_take n o h2 h1
theorem cut_none_of {n : Rs.Bytes} (h : Lib.indexByte n dot = -1) : cut n = none := cut_no n (fun i _ => Lib.indexByte_none h i)
/-- What strings.Cut returns at a dot. -/
def CutR (n : Rs.Bytes) (W : World) (e : Ending) (w' : World) : Prop := ∃ r : ByteArray, e = .returned (.tuple #[.string ⟨((cut n).getD n).toArray⟩, .string r, .bool (cut n).isSome]) ∧ ∃ m, w' = W.drewN m
set_option maxRecDepth 100000 in
set_option maxHeartbeats 4000000 in
theorem slcut_any (n : Rs.Bytes) (W : World) (hn : n.length ≤ maxLen) : Calls Try.prog 52 #[.string ⟨n.toArray⟩, .string ⟨#[46]⟩] W (CutR n W) := by
  have hz : n.length ≤ 9223372036854775807 := by unfold maxLen at hn; omega
  have HIX := Lib.hid (Try.stringslite_Index_one ⟨n.toArray⟩ dot W)
  have hge := Lib.indexByte_ge n dot
  have e0 : (ByteArray.mk n.toArray).data.toList = n := by simp
  rw [e0] at HIX
  clear hn
  by_cases hc : Lib.indexByte n dot = -1
  · have HC := Lib.hid (cut_none_of hc)
    rw [hc] at HIX
    clear hc hge e0
    go_enter Try.func52, Try.ntmps52
    go_wp2_with fail
    refine HIX.out.mono ?_
    rintro e w1 ⟨rfl, hw1⟩
    have hw1 := hw1.symm
    subst hw1
    go_wp2_with fail
    (try simp only [Exit.inBlock, Exit.then]); refine bodyPost_ret (results_tmp3 rfl _ _ _) rfl ?_
    exact ⟨_, by rw [HC.out]; rfl, 0, rfl⟩
  · obtain ⟨o, ho⟩ : ∃ o : Nat, Lib.indexByte n dot = (o : Int) := ⟨(Lib.indexByte n dot).toNat, by omega⟩
    have HC := Lib.hid (cut_some_take ho)
    have hlt : o < n.length := (List.getElem?_eq_some_iff.1 (Lib.indexByte_some ho).1).1
    rw [ho] at HIX
    clear hc hge e0 ho
    have S1 : Hid (∀ w, (Instr.slice 9 (.string ⟨n.toArray⟩) none (some (.int .i64 (o : Int))) none).run Try.prog w = .ok (.string ⟨(n.take o).toArray⟩) w) := fun w => by
      have h := run_slice_string_to_if (P := Try.prog) w 9 ⟨n.toArray⟩ .i64 (o : Int) Try.underlying9
      have hs : ((⟨n.toArray⟩ : ByteArray).size : Int) = (n.length : Int) := rfl
      rw [if_pos ⟨by omega, by rw [hs]; omega⟩] at h
      rw [h]
      congr 2
      apply ByteArray.ext
      apply Array.ext'
      rw [Lib.extract_data]
      simp
    have S2 : Hid (∀ w, (Instr.slice 9 (.string ⟨n.toArray⟩) (some (.int .i64 ((o : Int) + 1))) none none).run Try.prog w = .ok (.string ((⟨n.toArray⟩ : ByteArray).extract (o + 1) n.length)) w) := fun w => by
      have h := run_slice_string_from_if (P := Try.prog) w 9 ⟨n.toArray⟩ .i64 ((o : Int) + 1) Try.underlying9
      have hs : ((⟨n.toArray⟩ : ByteArray).size : Int) = (n.length : Int) := rfl
      rw [if_pos ⟨by omega, by rw [hs]; omega⟩] at h
      rw [h]
      rfl
    have HWR : Hid (IntKind.i64.wrap ((o : Int) + 1) = (o : Int) + 1) := Go.IntWalk.i64_in _ (by omega)
    have HLT := Lib.hid hlt
    go_enter Try.func52, Try.ntmps52
    go_wp2_with fail
    refine HIX.out.mono ?_
    rintro e w1 ⟨rfl, hw1⟩
    have hw1 := hw1.symm
    subst hw1
    go_upto_region 3 with fail
    refine Reg.G.start (by kernel_rfl) ?_
    obtain ⟨wD, hD⟩ : ∃ w, W.drew = w := ⟨_, rfl⟩
    have HDR : Hid (∃ m, wD = W.drewN m) := ⟨1, hD.symm⟩
    rw [hD]
    clear hD
    refine' Reg.G.pure (i := 0) (v := _) rfl (by rfl) (by kernel_rfl) (by kernel_rfl) (by kernel_rfl) (fun _ _ _ h => h) ?hyc1 ?rehyc1
    case hyc1 => exact fun w => by first | (go_simp; done) | (go_simp; with_reducible rfl)
    simp only [Act.put, List.setIfInBounds_toArray, List.set_cons_zero, List.set_cons_succ]
    refine' Reg.G.pure (i := 1) (v := _) rfl (by rfl) (by kernel_rfl) (by kernel_rfl) (by kernel_rfl) (fun _ _ _ h => h) ?hyc2 ?rehyc2
    case hyc2 => exact fun w => by first | (go_simp; done) | (go_simp; with_reducible rfl)
    simp only [Act.put, List.setIfInBounds_toArray, List.set_cons_zero, List.set_cons_succ]
    refine' Reg.G.pure (i := 2) (v := (.string ⟨(n.take o).toArray⟩)) rfl (by rfl) (by kernel_rfl) (by kernel_rfl) (by kernel_rfl) (fun _ _ _ h => h) ?hyc3 ?rehyc3
    case hyc3 => exact fun w => by have := S1.out w; first | (go_simp; done) | (go_simp; with_reducible rfl)
    simp only [Act.put, List.setIfInBounds_toArray, List.set_cons_zero, List.set_cons_succ]
    refine' Reg.G.pure (i := 3) (v := _) rfl (by rfl) (by kernel_rfl) (by kernel_rfl) (by kernel_rfl) (fun _ _ _ h => h) ?hyc4 ?rehyc4
    case hyc4 => exact fun w => by first | (go_simp; done) | (go_simp; with_reducible rfl)
    simp only [Act.put, List.setIfInBounds_toArray, List.set_cons_zero, List.set_cons_succ]
    refine' Reg.G.pure (i := 4) (v := _) rfl (by rfl) (by kernel_rfl) (by kernel_rfl) (by kernel_rfl) (fun _ _ _ h => h) ?hyc5 ?rehyc5
    case hyc5 => exact fun w => by first | (go_simp; done) | (go_simp; with_reducible rfl)
    simp only [Act.put, List.setIfInBounds_toArray, List.set_cons_zero, List.set_cons_succ]
    refine' Reg.G.pure (i := 5) (v := _) rfl (by rfl) (by kernel_rfl) (by kernel_rfl) (by kernel_rfl) (fun _ _ _ h => h) ?hyc6 ?rehyc6
    case hyc6 => exact fun w => by first | (go_simp; done) | (go_simp; with_reducible rfl)
    simp only [Act.put, List.setIfInBounds_toArray, List.set_cons_zero, List.set_cons_succ]
    refine' Reg.G.pure (i := 6) (v := _) rfl (by rfl) (by kernel_rfl) (by kernel_rfl) (by kernel_rfl) (fun _ _ _ h => h) ?hyc7 ?rehyc7
    case hyc7 => exact fun w => by first | (go_simp; done) | (go_simp; with_reducible rfl)
    simp only [Act.put, List.setIfInBounds_toArray, List.set_cons_zero, List.set_cons_succ]
    refine' Reg.G.pure (i := 7) (v := (.int .i64 ((o : Int) + 1))) rfl (by rfl) (by kernel_rfl) (by kernel_rfl) (by kernel_rfl) (fun _ _ _ h => h) ?hyc8 ?rehyc8
    case hyc8 => exact fun w => by have := HWR.out; first | (go_simp; done) | (go_simp; with_reducible rfl)
    simp only [Act.put, List.setIfInBounds_toArray, List.set_cons_zero, List.set_cons_succ]
    refine' Reg.G.pure (i := 8) (v := (.string ((⟨n.toArray⟩ : ByteArray).extract (o + 1) n.length))) rfl (by rfl) (by kernel_rfl) (by kernel_rfl) (by kernel_rfl) (fun _ _ _ h => h) ?hyc9 ?rehyc9
    case hyc9 => exact fun w => by have c1 : 0 ≤ (o : Int) + 1 := by { omega }; have c2 : (o : Int) + 1 ≤ (n.length : Int) := by { have := HLT.out; omega }; have ht : ((o : Int) + 1).toNat = o + 1 := by { omega }; first | (go_simp; done) | (go_simp; with_reducible rfl)
    simp only [Act.put, List.setIfInBounds_toArray, List.set_cons_zero, List.set_cons_succ]
    refine' Reg.G.pure (i := 9) (v := _) rfl (by rfl) (by kernel_rfl) (by kernel_rfl) (by kernel_rfl) (fun _ _ _ h => h) ?hyc10 ?rehyc10
    case hyc10 => exact fun w => by first | (go_simp; done) | (go_simp; with_reducible rfl)
    simp only [Act.put, List.setIfInBounds_toArray, List.set_cons_zero, List.set_cons_succ]
    refine' Reg.G.pure (i := 10) (v := _) rfl (by rfl) (by kernel_rfl) (by kernel_rfl) (by kernel_rfl) (fun _ _ _ h => h) ?hyc11 ?rehyc11
    case hyc11 => exact fun w => by first | (go_simp; done) | (go_simp; with_reducible rfl)
    simp only [Act.put, List.setIfInBounds_toArray, List.set_cons_zero, List.set_cons_succ]
    refine' Reg.G.pure (i := 11) (v := _) rfl (by rfl) (by kernel_rfl) (by kernel_rfl) (by kernel_rfl) (fun _ _ _ h => h) ?hyc12 ?rehyc12
    case hyc12 => exact fun w => by first | (go_simp; done) | (go_simp; with_reducible rfl)
    simp only [Act.put, List.setIfInBounds_toArray, List.set_cons_zero, List.set_cons_succ]
    refine Reg.G.done (by kernel_rfl) ?_
    go_wp2_with fail
    (try simp only [Exit.inBlock, Exit.then]); refine bodyPost_ret (results_tmp3 rfl _ _ _) rfl ?_
    exact ⟨_, by rw [HC.out]; rfl, HDR.out⟩
set_option maxRecDepth 100000 in
set_option maxHeartbeats 4000000 in
theorem cut_any (n : Rs.Bytes) (W : World) (hn : n.length ≤ maxLen) : Calls Try.prog 51 #[.string ⟨n.toArray⟩, .string ⟨#[46]⟩] W (CutR n W) := by
  have HC := Lib.hid (slcut_any n W hn)
  clear hn
  go_enter Try.func51, Try.ntmps51
  go_wp2_with fail
  refine HC.out.mono ?_
  rintro e w1 ⟨r, rfl, hd⟩
  have HD := Lib.hid hd
  clear hd HC
  go_wp2_with fail
  (try simp only [Exit.inBlock, Exit.then]); refine bodyPost_ret (results_tmp3 rfl _ _ _) rfl ?_
  exact ⟨r, rfl, HD.out⟩
set_option maxRecDepth 100000 in
theorem prefixed_any (y : DT) (n : Rs.Bytes) (g : Nat) (W : World) (hb : W.heap[g]? = some (.cells y.cells.toArray 41 (0, 0))) (h1 : y.h.name.length ≤ 1000000) (h2 : n.length ≤ 140737488355328) :
    Calls Try.prog 48 #[.string ⟨n.toArray⟩, .pointer (some ⟨g, 0, none⟩)] W fun e w' => e = .returned (.string ⟨(prefixed y.h.name n).toArray⟩) ∧ w' = W := by
  have k1 : W.cell? ⟨g, 1, none⟩ = some (.string ⟨y.h.name.toArray⟩) := by rw [cell_of_blk hb, DT.cells_eq]; rfl
  obtain ⟨a, ha⟩ : ∃ a, y.h.name = a := ⟨_, rfl⟩
  rw [ha] at k1 h1 ⊢
  have e1 : ((⟨a.toArray⟩ : ByteArray) ++ ⟨#[46]⟩) = ⟨(a ++ [46]).toArray⟩ := ba_app a [46]
  have e2 : ((⟨(a ++ [46]).toArray⟩ : ByteArray) ++ ⟨n.toArray⟩) = ⟨(prefixed a n).toArray⟩ := by rw [ba_app]; unfold prefixed dot; simp
  clear hb ha
  go_enter Try.func48, Try.ntmps48
  go_wp2_with fail
  go_ret
  exact ⟨rfl, rfl⟩
theorem zero_str (w : World) : (zeroValue 9).run Try.prog w = .ok (.string ⟨#[]⟩) w := by kernel_rfl
def argF (ps ag : List Rs.Bytes) (n : Rs.Bytes) : Option Value := (arg ps ag n).map sv
set_option maxRecDepth 100000 in
theorem replace_any (ps ag : List Rs.Bytes) (n : Rs.Bytes) (g m : Nat) (W : World) (hb : W.heap[g]? = some (.cells #[.map (some m)] 90 (0, 0))) (hm : Mp.MapF W m (argF ps ag)) :
    Calls Try.prog 46 #[.string ⟨n.toArray⟩, .pointer (some ⟨g, 0, none⟩)] W fun e w' => e = .returned (.string ⟨(repl ps ag n).toArray⟩) ∧ w' = W := by
  have k0 : W.cell? ⟨g, 0, none⟩ = some (.map (some m)) := (cell_of_blk hb 0).trans rfl
  have hok := hm.ok (P := Try.prog) Try.underlying90 Try.underlying9 n (zero_str W)
  unfold argF at hok
  unfold repl
  clear hb hm
  cases ha : arg ps ag n with
  | none =>
    rw [ha] at hok
    have hl : (Instr.lookup 90 (.map (some m)) (.string ⟨n.toArray⟩) true).run Try.prog W = .ok (.tuple #[.string ⟨#[]⟩, .bool false]) W := hok
    clear hok ha
    go_enter Try.func46, Try.ntmps46
    go_wp2_with fail
    go_ret
    exact ⟨rfl, rfl⟩
  | some a =>
    rw [ha] at hok
    have hl : (Instr.lookup 90 (.map (some m)) (.string ⟨n.toArray⟩) true).run Try.prog W = .ok (.tuple #[.string ⟨a.toArray⟩, .bool true]) W := hok
    clear hok ha
    go_enter Try.func46, Try.ntmps46
    go_wp2_with fail
    go_ret
    exact ⟨rfl, rfl⟩
def hasC (l : List DT) (n : Rs.Bytes) : Bool := l.any fun y => isClause y.h.kind && decide (y.h.name = n)
def hasI (l : List DT) (n : Rs.Bytes) : Bool := l.any fun y => decide (y.h.kind = 14) && decide (y.h.name = n)
def boF (f : Rs.Bytes → Bool) (n : Rs.Bytes) : Option Value := if f n = true then some (.bool true) else none
def isLocalD (l : List DT) (n : Rs.Bytes) : Bool := hasC l n || match cut n with | none => false | some f => hasI l f
theorem local_tree (x : DT) (n : Rs.Bytes) : isLocal x.tree n = isLocalD x.l n := by
  have e1 : ∀ m, x.tree.l.any (fun y => isClause y.h.kind && decide (y.h.name = m)) = hasC x.l m := fun m => by
    rw [DT.tree_l, List.any_map]
    unfold hasC
    congr 1
    funext y
    simp only [Function.comp, DT.tree_h]
  have e2 : ∀ m, x.tree.l.any (fun y => decide (y.h.kind = 14) && decide (y.h.name = m)) = hasI x.l m := fun m => by
    rw [DT.tree_l, List.any_map]
    unfold hasI
    congr 1
    funext y
    simp only [Function.comp, DT.tree_h]
  unfold isLocal isLocalD
  rw [e1]
  cases cut n with
  | none => rfl
  | some f => dsimp only; rw [e2]
theorem get_bo {f : Rs.Bytes → Bool} {w : World} {m : Nat} (h : Mp.MapF w m (boF f)) (n : Rs.Bytes) : (Instr.lookup 70 (.map (some m)) (.string ⟨n.toArray⟩) false).run Try.prog w = .ok (.bool (f n)) w := by
  have hget := h.get (P := Try.prog) Try.underlying70 Try.underlying9 n (zero_bool w)
  have e : (boF f n).getD (.bool false) = .bool (f n) := by unfold boF; cases f n <;> rfl
  rw [e] at hget
  exact hget
/-- What the closure of locals captured. -/
structure LocF (l : List DT) (g1 g2 m1 m2 : Nat) (w : World) : Prop where
  b1 : w.heap[g1]? = some (.cells #[.map (some m1)] 70 (0, 0))
  b2 : w.heap[g2]? = some (.cells #[.map (some m2)] 70 (0, 0))
  c : Mp.MapF w m1 (boF (hasC l))
  i : Mp.MapF w m2 (boF (hasI l))
theorem LocF.fr {S : Nat → Prop} {l : List DT} {g1 g2 m1 m2 : Nat} {w w' : World} (h : LocF l g1 g2 m1 m2 w) (hf : Fr S w w') (h1 : ¬ S g1) (h2 : ¬ S g2) (h3 : ¬ S m1) (h4 : ¬ S m2) : LocF l g1 g2 m1 m2 w' :=
  ⟨hf.blk h.b1 h1, hf.blk h.b2 h2, h.c.fr hf h3, h.i.fr hf h4⟩
set_option maxRecDepth 100000 in
set_option maxHeartbeats 4000000 in
theorem isLocal_any (l : List DT) (n : Rs.Bytes) (g1 g2 m1 m2 : Nat) (W : World) (h : LocF l g1 g2 m1 m2 W) (hn : n.length ≤ maxLen) :
    Calls Try.prog 50 #[.string ⟨n.toArray⟩, .pointer (some ⟨g1, 0, none⟩), .pointer (some ⟨g2, 0, none⟩)] W fun e w' => e = .returned (.bool (isLocalD l n)) ∧ ∃ m, w' = W.drewN m := by
  have HC := Lib.hid (cut_any n W hn)
  have HH := Lib.hid h
  clear h hn
  go_enter Try.func50, Try.ntmps50
  go_wp2_with fail
  refine HC.out.mono ?_
  rintro e w1 ⟨r, rfl, m, hw1⟩
  have HM : Hid (∃ m, w1 = W.drewN m) := ⟨m, hw1⟩
  have H1 : Hid (LocF l g1 g2 m1 m2 w1) := by rw [hw1]; exact HH.out.fr ((Fr.refl (fun _ => False) W).drewN m) (fun h => h) (fun h => h) (fun h => h) (fun h => h)
  clear hw1 HC
  have q1 : w1.cell? ⟨g1, 0, none⟩ = some (.map (some m1)) := (cell_of_blk H1.out.b1 0).trans rfl
  have q2 : w1.cell? ⟨g2, 0, none⟩ = some (.map (some m2)) := (cell_of_blk H1.out.b2 0).trans rfl
  have hl1 := get_bo H1.out.c n
  have HR : Hid (isLocalD l n = (hasC l n || match cut n with | none => false | some f => hasI l f)) := rfl
  obtain ⟨b, hb⟩ : ∃ b, hasC l n = b := ⟨_, rfl⟩
  rw [hb] at hl1 HR
  clear hb
  cases b with
  | true =>
    go_wp2_with fail
    go_ret
    exact ⟨by rw [HR.out]; rfl, HM.out⟩
  | false =>
    cases hc : cut n with
    | none =>
      rw [hc] at HR
      dsimp only [Option.isSome]
      go_wp2_with fail
      go_ret
      exact ⟨by rw [HR.out]; rfl, HM.out⟩
    | some f =>
      rw [hc] at HR
      have hl2 := get_bo H1.out.i f
      obtain ⟨b2, hb2⟩ : ∃ b, hasI l f = b := ⟨_, rfl⟩
      rw [hb2] at hl2
      have HR2 : Hid (isLocalD l n = b2) := by show _ = _; rw [HR.out]; exact hb2
      dsimp only [Option.isSome, Option.getD]
      clear hb2 HR
      go_wp2_with fail
      go_ret
      exact ⟨by rw [HR2.out]; rfl, HM.out⟩
end Go.Proofs.Yticakdajhmfpoaa.Ic
