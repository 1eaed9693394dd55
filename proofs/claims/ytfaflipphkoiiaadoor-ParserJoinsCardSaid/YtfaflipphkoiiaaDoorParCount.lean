/-
  What the functions Count of package estoppelref07 and items of the statements return.
-/
import Derived.Test.YtfaflipphkoiiaaDoorParJoins
namespace Go.Proofs.YtfaflipphkoiiaaDoor.Pr
open Go.RowKit Mem
open Lx (Tok bs bs_length cellsOf cellsAll)
set_option linter.unusedVariables false

theorem sum_take_succ (ns : List Nat) (j : Nat) (h : j < ns.length) : (ns.take (j + 1)).sum = (ns.take j).sum + ns[j] := by
  rw [List.take_succ_eq_append_getElem h, List.sum_append]; simp
theorem sum_take_le (ns : List Nat) (j : Nat) : (ns.take j).sum ≤ ns.sum := by
  conv => rhs; rw [← List.take_append_drop j ns, List.sum_append]
  omega
theorem at_le_sum (ns : List Nat) (j : Nat) (h : j < ns.length) : ns[j] ≤ ns.sum := by
  have := sum_take_succ ns j h
  have := sum_take_le ns (j + 1)
  omega
set_option maxHeartbeats 2000000 in
theorem count_rows (xs : List Sx) (ns : List Nat) (v : Value) (w : World) (hlen : ns.length = xs.length) (hb : xs.length + ns.sum ≤ 1000000) (hrow : Row w v 33 (xs.map sxc))
    (hcall : ∀ i (h : i < xs.length) (h' : i < ns.length), Calls Tryd.prog 16 #[xs[i].2.2.2.2] w fun e w' => e = .returned (.int .i64 (ns[i] : Int)) ∧ w = w') :
    Calls Tryd.prog 16 #[v] w fun e w' => e = .returned (.int .i64 ((xs.length + ns.sum : Nat) : Int)) ∧ w = w' := by
  obtain ⟨A, cap, rfl, hcap, hr⟩ := hrow
  rw [List.length_map] at hcap ⊢
  have HR := Lib.hid hr; clear hr
  have HC := Lib.hid hcall; clear hcall
  have HL := Lib.hid hlen
  go_enter Tryd.func16, Tryd.ntmps16
  go_wp2_with fail
  go_loop [3, 4] (fun n i => ∃ j : Nat, i = .int .i64 j ∧ n = .int .i64 ((j + (ns.take j).sum : Nat) : Int) ∧ j ≤ xs.length) (fun _ i => xs.length - (intOf i).toNat)
  case atStart => exact ⟨0, rfl, rfl, by omega⟩
  case round =>
    obtain ⟨j, rfl, rfl, hj⟩ := hrel
    by_cases hlt : j < xs.length
    · have hlt' : j < ns.length := by have := HL.out; omega
      obtain ⟨g, o, rfl, hg, hr⟩ := HR.out.resolve_left (by intro e; rw [List.map_eq_nil_iff] at e; rw [e] at hlt; simp at hlt)
      have hr := hr j (sxc xs[j]) (by simp [hlt]) 32 xs[j].2.2.2.2 rfl
      have cj : w.cell? ⟨g, o + j * 33 + 32, none⟩ = some xs[j].2.2.2.2 := hr
      clear hr hlen
      have h1 := sum_take_succ ns j hlt'
      have h2 := sum_take_le ns (j + 1)
      have HS := Lib.hid h1
      obtain ⟨m, hm⟩ : ∃ m, (ns.take j).sum = m := ⟨_, rfl⟩
      obtain ⟨k, hk⟩ : ∃ k, ns[j] = k := ⟨_, rfl⟩
      rw [hm, hk] at h1
      rw [h1] at h2
      rw [hm]
      have HM := Lib.hid hm; have HK := Lib.hid hk
      clear hm hk h1
      have hw1 : (((j + m : Nat) : Int)) = (j : Int) + (m : Int) := by omega
      go_wp2_with fail
      refine (HC.out j hlt hlt').mono ?_
      rw [HK.out]
      rintro e w' ⟨rfl, rfl⟩
      go_wp2_with fail
      go_round
      case rel => exact ⟨j + 1, by go_num, by rw [HS.out, HM.out, HK.out]; apply congrArg (Value.int .i64); omega, by omega⟩
      case measure => simp [intOf]; omega
    · have hjt : j = xs.length := by omega
      subst hjt
      have hlen' := HL.out
      rw [List.take_of_length_le (by omega)]
      clear hlen hlen'
      go_wp2_with fail
      go_ret
      exact ⟨rfl, rfl⟩
theorem count_nil (w : World) : Calls Tryd.prog 16 #[nil] w fun e w' => e = .returned (.int .i64 ((0 : Nat) : Int)) ∧ w = w' :=
  count_rows [] [] nil w rfl (by simp) (Row.nil w 33) (fun i h => by simp at h)
theorem count_inner (l : List Flat) (v : Value) (w : World) (hv : VInner w l v) (hb : l.length ≤ 1000000) : Calls Tryd.prog 16 #[v] w fun e w' => e = .returned (.int .i64 (l.length : Int)) ∧ w = w' := by
  obtain ⟨vs, hl, hr, hf⟩ := hv
  have hz := zip_len hl
  have hs : ((l.zip vs).map fun _ => 0).sum = 0 := by
    generalize l.zip vs = z
    induction z with
    | nil => rfl
    | cons a z ih => simpa using ih
  have := count_rows ((l.zip vs).map fun p => (p.1, p.2.1, p.2.2.1, p.2.2.2, nil)) ((l.zip vs).map fun _ => 0) v w (by simp) (by rw [hs, List.length_map, hz]; omega) (by rw [List.map_map]; exact hr) (fun i h h' => by
    rw [List.getElem_map, List.getElem_map]; exact count_nil w)
  rw [hs, List.length_map, hz] at this
  exact this
theorem count_sum (l : List Item) : count l = l.length + (l.map fun x => x.inner.length).sum := by
  induction l with
  | nil => rfl
  | cons x l ih => rw [count, ih, List.length_cons, List.map_cons, List.sum_cons]; omega
theorem count_items (l : List Item) (v : Value) (w : World) (hv : VItems w l v) (hb : count l ≤ 1000000) : Calls Tryd.prog 16 #[v] w fun e w' => e = .returned (.int .i64 (count l : Int)) ∧ w = w' := by
  obtain ⟨vs, hl, hr, hf⟩ := hv
  have hz := zip_len hl
  have hm : (l.zip vs).map (fun p => p.1.inner.length) = l.map fun x => x.inner.length := by
    have : (l.zip vs).map Prod.fst = l := List.map_fst_zip (by omega)
    conv => rhs; rw [← this, List.map_map]
    rfl
  have := count_rows ((l.zip vs).map fun p => (p.1.flat, p.2.1, p.2.2.1, p.2.2.2.1, p.2.2.2.2)) ((l.zip vs).map fun p => p.1.inner.length) v w (by simp) (by rw [hm, List.length_map, hz, ← count_sum]; exact hb) (by rw [List.map_map]; exact hr) (fun i h h' => by
    have i1 : i < (l.zip vs).length := by simpa using h
    rw [List.getElem_map, List.getElem_map]
    have m1 := hf _ (List.getElem_mem i1)
    refine count_inner _ _ w m1.2 ?_
    have hle := at_le_sum ((l.zip vs).map fun p => p.1.inner.length) i h'
    rw [List.getElem_map] at hle
    have hsum : ((l.zip vs).map fun p => p.1.inner.length).sum = (l.map fun x => x.inner.length).sum := congrArg List.sum hm
    have := count_sum l
    omega)
  rw [hm, List.length_map, hz, ← count_sum] at this
  exact this

set_option maxHeartbeats 2000000 in
theorem items_after (s : ByteArray) (ts : List Tok) (i : Nat) (w : World) (hs : s.size ≤ 100000) (hl : Lx.lex (bs s) = .ok ts) (hi : i < ts.length) (ht : ts[i].text = [59]) (hj : ∀ j (hj : j < ts.length), j < i → ts[j].text ≠ [59]) (hp : ts[i].pos < s.size) :
    Calls Tryd.prog 17 #[.string s] w fun e w' => e = .returned (.string (s.extract (ts[i].pos + 1) s.size)) ∧ Below w.heap.size w w' := by
  have HL := Lib.hid hl
  have hlen := lex_len hl
  clear hl
  have HT := Lib.hid ht; have HJ := Lib.hid hj
  clear ht hj
  obtain ⟨P, hP⟩ : ∃ P, ts[i].pos = P := ⟨_, rfl⟩
  rw [hP] at hp ⊢
  have HP := Lib.hid hP; clear hP
  go_enter Tryd.func17, Tryd.ntmps17
  go_wp2_with fail
  refine (Lx.lex_ok s _ (by omega) ts HL.out).mono ?_
  rintro e w2 ⟨⟨A, cap, rfl, ho⟩, hb2⟩
  have HR : Hid (Row w2 (.slice A ts.length cap) 4 (ts.map cellsOf)) := Row.of_own ho (fun _ _ => rfl)
  have HB := Lib.hid hb2; clear hb2 ho
  go_wp2_with fail
  go_loop [6] (fun v => ∃ j : Nat, v = .int .i64 j ∧ j ≤ i) (fun v => ts.length - (intOf v).toNat)
  case atStart => exact ⟨0, rfl, by omega⟩
  case round =>
    obtain ⟨j, rfl, hji⟩ := hrel
    have hne : ts.map cellsOf ≠ [] := by intro e; rw [List.map_eq_nil_iff] at e; rw [e] at hi; simp at hi
    obtain ⟨g, o, cap', he, hg, hr⟩ := HR.out.at hne
    injection he with he1 he2 he3
    subst he1
    clear he2 he3
    have hjt : j < ts.length := by omega
    have c1 : w2.cell? ⟨g, o + j * 4 + 1, none⟩ = some (.string ⟨ts[j].text.toArray⟩) := hr j (cellsOf ts[j]) (by simp [hjt]) 1 _ rfl
    have c3 : w2.cell? ⟨g, o + j * 4 + 3, none⟩ = some (.int .i64 (ts[j].pos : Int)) := hr j (cellsOf ts[j]) (by simp [hjt]) 3 _ rfl
    clear hr
    by_cases hlt : j < i
    · have hd : (ts[j].text == [59]) = false := beq_eq_false_iff_ne.2 (HJ.out j hjt hlt)
      go_wp2_with fail
      go_round
      case rel => exact ⟨j + 1, by go_num, by omega⟩
      case measure => simp [intOf]; omega
    · obtain rfl : i = j := by omega
      rw [HT.out] at c1
      rw [HP.out] at c3
      have hsl : ∀ W, (Instr.slice 9 (.string s) (some (.int .i64 ((P : Int) + 1))) none none).run Tryd.prog W = .ok (.string (s.extract (P + 1) s.size)) W := fun W => by
        have := run_slice_string_l (P := Tryd.prog) W 9 s Tryd.underlying9 .i64 ((P : Int) + 1) (by omega) (by omega)
        simpa using this
      have d1 : decide ((0 : Int) ≤ (P : Int)) = true := by simp
      have d2 : decide ((P : Int) < (s.size : Int)) = true := by simp; omega
      go_wp2_with fail
      go_ret
      exact ⟨rfl, HB.out⟩
end Go.Proofs.YtfaflipphkoiiaaDoor.Pr
