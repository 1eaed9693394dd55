/-
  What the parser's method names returns.
-/
import Derived.Test.YtfaflipphkoiiaaDoorParLoopA
import Derived.Test.YtfaflipphkoiiaaDoorParMono
import Derived.OwnWalk
namespace Go.Proofs.YtfaflipphkoiiaaDoor.Pr
open Go.RowKit Mem
open Lx (Tok)
set_option linter.unusedVariables false

/-- How many tokens are left, as the parser's memory says it. -/
def lft (E : Env) (b : Nat) (w : World) : Nat := E.ts.length - (match w.cell? ⟨b, 1, none⟩ with | some (.int _ n) => n.toNat | _ => 0)
theorem PW.lft {E : Env} {b : Nat} {s : St} {w : World} (h : PW E b s w) : lft E b w = s.rest.length := by
  obtain ⟨n, h1, h2, _, c1, _⟩ := h.cells
  unfold Pr.lft
  rw [c1, h2, List.length_drop]
  rfl
theorem PW.len {E : Env} {b : Nat} {s : St} {w : World} (h : PW E b s w) : s.rest.length ≤ 5000 := by
  obtain ⟨n, h1, h2, _⟩ := h.cells
  have := h.1
  rw [h2, List.length_drop]
  omega
theorem info_str : (Tryd.prog.info? 9).map (fun i => (i.zero, i.size, i.bytes)) = some (some (.string ⟨#[]⟩), 1, 16) := by kernel_rfl
theorem one_new (W : World) (v : Value) (T : TypeId) (g : Nat) (hg : g = W.heap.size) : ∀ j u, [v][j]? = some u → (W.alloc (.cells #[v] T)).cell? ((⟨g, 0, none⟩ : Addr).add j) = some u := cells_new W [v] T g hg
theorem After.grown {E : Env} {b : Nat} {s : St} {W W1 w4 : World} {v : Value} {o : Obj} (h : After E b s W W1) (hg : (W1.alloc o).grownBy w4 v.ownBlock) (hv : ∀ g, v.ownBlock = some g → W.heap.size ≤ g) (hb : b < W.heap.size) : After E b s W w4 := by
  have h2 : Fr (fun k => W.heap.size ≤ k) W1 w4 := ((Fr.refl _ _).alloc o).grown hg (fun k hk => .inl (hv k hk))
  exact ⟨h.1.fr h2 (fun k hk hs => by omega), h.2.trans' h2 (fun i hi hs => by omega)⟩
/-- What a loop over names holds. -/
def NRel (E : Env) (b : Nat) (W : World) (R : List Bytes) (sr : St) (v : Value) (wr : World) : Prop :=
  ∃ (l : List Bytes) (s' : St) (f : Nat), After E b s' W wr ∧ wr.ownsRow W.heap.size 9 1 v l.length (l.map sv) ∧ s'.rest.length < f ∧ l.length + s'.rest.length ≤ 5001 ∧ (l ++ (namesMore f s').1, (namesMore f s').2) = (R, sr)

set_option maxRecDepth 100000 in
set_option maxHeartbeats 2000000 in
theorem names_any (E : Env) (b : Nat) (s : St) (W : World) (h : PW E b s W) :
    Calls Tryd.prog 96 #[.pointer (some ⟨b, 0, none⟩)] W fun e w' => (∃ sn, e = .returned sn ∧ w'.ownsRow W.heap.size 9 1 sn (names s).1.length ((names s).1.map sv)) ∧ After E b (names s).2 W w' := by
  have hbl := h.2.2.1
  obtain ⟨i0, hi, hz0, hz1, hz2⟩ := info_parts info_str
  obtain ⟨u1, s1, h1⟩ : ∃ x s', expect [[40]] s = (x, s') := ⟨_, _, rfl⟩
  obtain ⟨o2, s2, h2⟩ : ∃ x s', opt 1 s1 = (x, s') := ⟨_, _, rfl⟩
  have HP := Lib.hid h; clear h
  cases o2 with
  | none =>
    obtain ⟨u3, s3, h3⟩ : ∃ x s', expect [[41]] s2 = (x, s') := ⟨_, _, rfl⟩
    have hp : names s = ([], s3) := (seq_eq h1).trans ((bnd_eq h2).trans ((seq_eq h3).trans rfl))
    rw [hp]
    have H1 := Lib.hid h1; have H2 := Lib.hid h2; have H3 := Lib.hid h3
    clear h1 h2 h3 hp
    go_enter Tryd.func96, Tryd.ntmps96
    go_wp2_with fail
    refine (expect1 E b s [40] _ _ (by simp) HP.out).mono ?_
    rw [H1.out]
    rintro e w1 ⟨rfl, hA⟩
    have HA := Lib.hid hA; clear hA
    go_wp2_with fail
    refine (isKind_any E b s1 1 _ HA.out.1).mono ?_
    rw [(opt_none H2.out).1]
    rintro e w2 ⟨rfl, m2, rfl⟩
    obtain rfl := (opt_none H2.out).2
    go_wp2_with fail
    refine (expect1 E b s2 [41] _ _ (by simp) (HA.out.drewN m2).1).mono ?_
    rw [H3.out]
    rintro e w3 ⟨rfl, hA⟩
    have HA3 := Lib.hid ((HA.out.drewN m2).trans hA); clear hA
    go_wp2_with fail
    go_ret
    exact ⟨⟨_, rfl, World.ownsRow_nil _ _ _ _⟩, HA3.out⟩
  | some t =>
    obtain ⟨R, sr, h3⟩ : ∃ R sr, long namesMore s2 = (R, sr) := ⟨_, _, rfl⟩
    obtain ⟨u4, s4, h4⟩ : ∃ x s', expect [[41]] sr = (x, s') := ⟨_, _, rfl⟩
    have hp : names s = (t.text :: R, s4) := (seq_eq h1).trans ((bnd_eq h2).trans ((bnd_eq h3).trans ((seq_eq h4).trans rfl)))
    rw [hp]
    have H1 := Lib.hid h1; have H2 := Lib.hid h2; have H3 := Lib.hid h3; have H4 := Lib.hid h4
    clear h1 h2 h3 h4 hp
    have HO : Hid (∀ w : World, w.ownsRow W.heap.size 9 1 (.slice none 0 0) 0 []) := fun w => World.ownsRow_nil _ _ _ _
    go_enter Tryd.func96, Tryd.ntmps96
    go_wp2_with fail
    refine (expect1 E b s [40] _ _ (by simp) HP.out).mono ?_
    rw [H1.out]
    rintro e w1 ⟨rfl, hA⟩
    have HA := Lib.hid hA; clear hA
    go_wp2_with fail
    refine (isKind_any E b s1 1 _ HA.out.1).mono ?_
    rw [(opt_some H2.out).1]
    rintro e w2 ⟨rfl, m2, rfl⟩
    go_wp2_with fail
    refine (name_any E b s1 _ (HA.out.drewN m2).1).mono ?_
    rw [name_of_opt H2.out]
    rintro e w3 ⟨rfl, hA⟩
    have HA3 := Lib.hid ((HA.out.drewN m2).trans hA); clear hA HA
    have hz3 := HA3.out.2.size
    go_wp2_with (at_builtin; refine wpList_append_own_at _ rfl _ _ 55 rfl W.heap.size 9 i0 _ 1 16 Tryd.underlying55 hi hz0 hz1 hz2 rfl (by decide) _ 0 [] rfl (HO.out _) ⟨w3.heap.size, 0, none⟩ 1 1 [.string ⟨t.text.toArray⟩] rfl rfl ?c1 ?c2 ?c3 ?c4 ?c5 ?_)
    case c1 => exact one_new _ _ _ _ rfl
    case c2 => intro u hu; simp at hu; subst hu; rfl
    case c3 => simp only [maxLen]; omega
    case c4 => omega
    case c5 => simp only [World.size_alloc]; omega
    intro v4 w4 hown4 hg4 hnil4 hat4
    obtain ⟨A4, cap4, rfl⟩ := own_form hown4
    have HA4 := Lib.hid (HA3.out.grown hg4 (fun g hg => by cases hg) hbl)
    have HO4 := Lib.hid hown4
    clear hown4 hg4 hnil4 hat4 HA3
    have hln := HA4.out.1.len
    go_wp2_with fail
    go_loopw [3] (fun v wr => NRel E b W (t.text :: R) sr v wr) (fun _ wr => lft E b wr)
    case atStart => exact ⟨[t.text], s2, s2.rest.length + 1, HA4.out, HO4.out, by omega, by simp; omega, by have := H3.out; unfold long at this; rw [this]; rfl⟩
    case round =>
      obtain ⟨l, s', f, hA, hO, hf, hb, hX⟩ := hrel
      obtain ⟨A5, cap5, rfl⟩ := own_form hO
      obtain ⟨f, rfl⟩ : ∃ g, f = g + 1 := ⟨f - 1, by omega⟩
      have hlf := hA.1.lft
      have HA := Lib.hid hA; clear hA
      have HO := Lib.hid hO; clear hO
      rw [namesMore_succ] at hX
      cases ha : (acc [44] s').1 with
      | true =>
        obtain ⟨hl1, _⟩ := acc_len ha
        have hl2 := Mono.name (acc [44] s').2
        have hX3 : (l ++ (name (acc [44] s').2).1 :: (namesMore f (name (acc [44] s').2).2).1, (namesMore f (name (acc [44] s').2).2).2) = (t.text :: R, sr) := by rw [ha] at hX; exact hX
        have HX := Lib.hid hX3
        have HAA := Lib.hid ha
        clear hX hX3 ha
        have HLF := Lib.hid hlf; clear hlf
        go_wp2_with fail
        refine (accept_any E b s' [44] _ HA.out.1).mono ?_
        rw [HAA.out]
        rintro e w5 ⟨rfl, hA5⟩
        have HA5 := Lib.hid (HA.out.trans hA5)
        have HO5 := Lib.hid (own_fr HO.out hA5.2 (fun k hk _ e => by omega)); clear hA5
        go_wp2_with fail
        refine (name_any E b _ _ HA5.out.1).mono ?_
        generalize hnm : name (acc [44] s').2 = nm at *
        obtain ⟨x, s6⟩ := nm
        have HNM := Lib.hid hnm; clear hnm
        rintro e w6 ⟨rfl, hA6⟩
        have HA6 := Lib.hid (HA5.out.trans hA6)
        have HO6 := Lib.hid (own_fr HO5.out hA6.2 (fun k hk _ e => by omega)); clear hA6 HA5 HO5
        have hz6 := HA6.out.2.size
        go_wp2_with (at_builtin; refine wpList_append_own_at _ rfl _ _ 55 rfl W.heap.size 9 i0 _ 1 16 Tryd.underlying55 hi hz0 hz1 hz2 rfl (by decide) _ _ _ rfl (own_fr HO6.out ((Fr.refl (fun _ => False) _).alloc _) (fun _ _ _ h => h)) ⟨w6.heap.size, 0, none⟩ 1 1 [.string ⟨x.toArray⟩] rfl rfl ?d1 ?d2 ?d3 ?d4 ?d5 ?_)
        case d1 => exact one_new _ _ _ _ rfl
        case d2 => intro u hu; simp at hu; subst hu; rfl
        case d3 => simp only [maxLen]; omega
        case d4 => omega
        case d5 => simp only [World.size_alloc]; omega
        intro v7 w7 hown7 hg7 hnil7 hat7
        have HA7 := Lib.hid (HA6.out.grown hg7 (fun g hg => (own_lt HO6.out g hg).1) hbl)
        have hlf7 := HA7.out.1.lft
        have HN : Hid (NRel E b W (t.text :: R) sr v7 w7) := by
          refine ⟨l ++ [x], s6, f, HA7.out, ?_, by omega, by simp only [List.length_append, List.length_cons, List.length_nil]; omega, by rw [← HX.out]; simp⟩
          rw [List.length_append, List.map_append]; exact hown7
        have HM : Hid (lft E b w7 < lft E b wr) := by show _ < _; rw [hlf7, HLF.out]; omega
        clear hown7 hg7 hnil7 hat7 hlf7
        go_wp2_with fail
        go_roundw
        case rel => exact HN.out
        case measure => exact HM.out
      | false =>
        have hX3 : (l, (acc [44] s').2) = (t.text :: R, sr) := by rw [ha] at hX; simpa using hX
        injection hX3 with hX4 hX5
        have HX4 := Lib.hid hX4; have HX5 := Lib.hid hX5
        have HAA := Lib.hid ha
        clear hX hX4 hX5 ha hlf
        go_wp2_with fail
        refine (accept_any E b s' [44] _ HA.out.1).mono ?_
        rw [HAA.out, HX5.out]
        rintro e w5 ⟨rfl, hA5⟩
        have HA5 := Lib.hid (HA.out.trans hA5)
        have HO5 := Lib.hid (own_fr HO.out hA5.2 (fun k hk _ e => by omega)); clear hA5
        go_wp2_with fail
        refine (expect1 E b sr [41] _ _ (by simp) HA5.out.1).mono ?_
        rw [H4.out]
        rintro e w6 ⟨rfl, hA6⟩
        have HA6 := Lib.hid (HA5.out.trans hA6)
        have HO6 := Lib.hid (own_fr HO5.out hA6.2 (fun k hk _ e => by omega)); clear hA6
        go_wp2_with fail
        go_ret
        have e := HX4.out
        subst e
        exact ⟨⟨_, rfl, HO6.out⟩, HA6.out⟩
end Go.Proofs.YtfaflipphkoiiaaDoor.Pr
