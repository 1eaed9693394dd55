/-
  What the function scan of package lexer returns, or the panic with which it ends.
-/
import Derived.Test.YtfaflipphkoiiaaDoorLexWalkE
import Derived.Maps.AppendAt
import Derived.OwnWalk
import Derived.Outline
namespace Go.Proofs.YtfaflipphkoiiaaDoor.Lx
open Go.RowKit
set_option linter.unusedVariables false

/-- The cells of a token, of tokens. -/
def cellsOf (t : Tok) : List Value := [.int .i64 t.kind, .string ⟨t.text.toArray⟩, .int .i64 t.n, .int .i64 t.pos]
def cellsAll (ts : List Tok) : List Value := ts.flatMap cellsOf
theorem cellsAll_snoc (ts : List Tok) (t : Tok) : cellsAll (ts ++ [t]) = cellsAll ts ++ cellsOf t := by simp [cellsAll]

theorem info_tok : (Tryd.prog.info? 40).map (fun i => (i.zero, i.size, i.bytes)) = some (some (.agg #[.int .i64 0, .string ⟨#[]⟩, .int .i64 0, .int .i64 0]), 4, 40) := by kernel_rfl

theorem mk_bs (x : ByteArray) : (⟨(bs x).toArray⟩ : ByteArray) = x := by cases x; simp [bs]
theorem text_of (s : ByteArray) (p len : Nat) : s.extract p (p + len) = ⟨(((bs s).drop p).take len).toArray⟩ := by
  rw [← mk_bs (s.extract p (p + len)), bs_extract]
  congr 3
  omega

theorem own_lt {w : World} {base : Nat} {e : TypeId} {size : Nat} {v : Value} {n : Nat} {xs : List Value} (h : w.ownsRow base e size v n xs) : ∀ g, v.ownBlock = some g → base ≤ g ∧ g < w.heap.size := by
  intro g hg
  rcases h.2 with ⟨rfl, _⟩ | ⟨g', cap, cur, rfl, hb, hh, _⟩
  · cases hg
  · simp only [Value.ownBlock] at hg
    injection hg with hg
    subst hg
    refine ⟨hb, ?_⟩
    rcases Nat.lt_or_ge g' w.heap.size with hlt | hge
    · exact hlt
    · rw [Array.getElem?_eq_none hge] at hh; cases hh
/-- What a call owns stays, whatever further memory is made. -/
theorem own_keep {w w1 : World} {base : Nat} {e : TypeId} {size : Nat} {v : Value} {n : Nat} {xs : List Value} (h : w.ownsRow base e size v n xs) (hb : Below w.heap.size w w1) : w1.ownsRow base e size v n xs := by
  refine ⟨h.1, ?_⟩
  rcases h.2 with h2 | ⟨g, cap, cur, hv, hg, hh, r⟩
  · exact .inl h2
  · refine .inr ⟨g, cap, cur, hv, hg, ?_, r⟩
    have hlt : g < w.heap.size := by
      rcases Nat.lt_or_ge g w.heap.size with hlt | hge
      · exact hlt
      · rw [Array.getElem?_eq_none hge] at hh; cases hh
    rw [hb.block g hlt]; exact hh

/-- How a scan ends: with the tokens in a slice of its own, or with the panic. -/
def ScanEnd (s : ByteArray) (B : Nat) (e : Ending) (w' : World) : Prop :=
  match lexP (s.size + 1) (bs s) (gapLen false (bs s)) 0 with
  | .ok ts => ∃ v, e = .returned v ∧ w'.ownsRow B 40 4 v ts.length (cellsAll ts)
  | .error (er, p) => e = .panicked (fail_ er p)
theorem ScanEnd.of_ok {s : ByteArray} {B : Nat} {e : Ending} {w' : World} {ts : List Tok} {v : Value} (h : lexP (s.size + 1) (bs s) (gapLen false (bs s)) 0 = .ok ts) (he : e = .returned v) (ho : w'.ownsRow B 40 4 v ts.length (cellsAll ts)) : ScanEnd s B e w' := by
  unfold ScanEnd; rw [h]; exact ⟨v, he, ho⟩
theorem ScanEnd.of_err {s : ByteArray} {B : Nat} {e : Ending} {w' : World} {er p : Nat} (h : lexP (s.size + 1) (bs s) (gapLen false (bs s)) 0 = .error (er, p)) (he : e = .panicked (fail_ er p)) : ScanEnd s B e w' := by
  unfold ScanEnd; rw [h]; exact he

/-- What holds at the head of a round. -/
def ScanRel (s : ByteArray) (w : World) (ts : List Tok) (p : Nat) (v : Value) (wr : World) : Prop :=
  p ≤ s.size ∧ ts.length ≤ 5000 ∧ wr.ownsRow w.heap.size 40 4 v ts.length (cellsAll ts) ∧ Below w.heap.size w wr ∧
    ∃ f, s.size - p < f ∧ comb ts (lexP f (bs s) p ts.length) = lexP (s.size + 1) (bs s) (gapLen false (bs s)) 0

theorem gap_le (s : ByteArray) (q : Nat) (h : q ≤ s.size) : q + gapLen false ((bs s).drop q) ≤ s.size := by
  have := gapLen_le false ((bs s).drop q); rw [List.length_drop, bs_length] at this; omega

theorem ScanRel.start (s : ByteArray) (w w1 : World) (hb : Below w.heap.size w w1) : ScanRel s w [] (gapLen false (bs s)) (.slice none 0 0) w1 := by
  have := gap_le s 0 (by omega)
  simp only [Nat.zero_add, List.drop_zero] at this
  refine ⟨this, by simp, ⟨by simp [cellsAll], .inl ⟨rfl, rfl⟩⟩, hb, s.size + 1, by omega, comb_nil _⟩
theorem ScanRel.done {s : ByteArray} {w wr : World} {ts : List Tok} {p : Nat} {v : Value} (h : ScanRel s w ts p v wr) (hp : ¬ p < s.size) : ScanEnd s w.heap.size (.returned v) wr := by
  obtain ⟨h1, h2, h3, h4, f, hf, hc⟩ := h
  obtain ⟨f, rfl⟩ : ∃ g, f = g + 1 := ⟨f - 1, by omega⟩
  rw [lexP_end _ _ _ _ (by rw [bs_length]; omega)] at hc
  exact .of_ok (by rw [← hc]; simp [comb]) rfl h3
theorem ScanRel.err {s : ByteArray} {w wr w' : World} {ts : List Tok} {p er : Nat} {v : Value} (h : ScanRel s w ts p v wr) (hp : p < s.size) (ht : tokOf ((bs s).drop p) = .error er) : ScanEnd s w.heap.size (.panicked (fail_ er p)) w' := by
  obtain ⟨h1, h2, h3, h4, f, hf, hc⟩ := h
  obtain ⟨f, rfl⟩ : ∃ g, f = g + 1 := ⟨f - 1, by omega⟩
  rw [lexP_err _ _ _ _ _ (by rw [bs_length]; omega) ht] at hc
  exact .of_err (by rw [← hc]; simp [comb]) rfl
theorem ScanRel.full {s : ByteArray} {w wr w' : World} {ts : List Tok} {p : Nat} {v : Value} {x : Nat × Nat × Nat} (h : ScanRel s w ts p v wr) (hp : p < s.size) (ht : tokOf ((bs s).drop p) = .ok x) (h5 : ts.length = 5000) : ScanEnd s w.heap.size (.panicked (fail_ 3 p)) w' := by
  obtain ⟨h1, h2, h3, h4, f, hf, hc⟩ := h
  obtain ⟨f, rfl⟩ : ∃ g, f = g + 1 := ⟨f - 1, by omega⟩
  rw [h5, lexP_full _ _ _ _ (by rw [bs_length]; omega) ht] at hc
  exact .of_err (by rw [← hc]; simp [comb]) rfl
theorem ScanRel.step {s : ByteArray} {w wr w' : World} {ts : List Tok} {p k len n : Nat} {v v' : Value} (h : ScanRel s w ts p v wr) (hp : p < s.size) (ht : tokOf ((bs s).drop p) = .ok (k, len, n)) (h5 : ts.length ≠ 5000)
    (ho : w'.ownsRow w.heap.size 40 4 v' (ts.length + 1) (cellsAll ts ++ [.int .i64 k, .string (s.extract p (p + len)), .int .i64 n, .int .i64 p])) (hb : Below w.heap.size w w') :
    ScanRel s w (ts ++ [⟨k, ((bs s).drop p).take len, n, p⟩]) (p + len + gapLen false ((bs s).drop (p + len))) v' w' := by
  obtain ⟨h1, h2, h3, h4, f, hf, hc⟩ := h
  obtain ⟨f, rfl⟩ : ∃ g, f = g + 1 := ⟨f - 1, by omega⟩
  have hl := tokOf_len _ _ _ _ ht
  rw [List.length_drop, bs_length] at hl
  rw [lexP_step _ _ _ _ _ _ _ (by rw [bs_length]; omega) ht h5, comb_comb] at hc
  refine ⟨gap_le s _ (by omega), by simp; omega, ?_, hb, f, by omega, by rw [List.length_append]; exact hc⟩
  rw [List.length_append, cellsAll_snoc]
  rw [text_of] at ho
  exact ho

theorem own_form {w : World} {base : Nat} {e : TypeId} {size : Nat} {v : Value} {n : Nat} {xs : List Value} (h : w.ownsRow base e size v n xs) : ∃ A cap, v = .slice A n cap := by
  rcases h.2 with ⟨rfl, rfl⟩ | ⟨g, cap, cur, rfl, _⟩
  · exact ⟨_, _, rfl⟩
  · exact ⟨_, _, rfl⟩
theorem ScanRel.form {s : ByteArray} {w wr : World} {ts : List Tok} {p : Nat} {v : Value} (h : ScanRel s w ts p v wr) : ∃ A cap, v = .slice A ts.length cap := own_form h.2.2.1

theorem cells_new (W : World) (l : List Value) (T : TypeId) (g : Nat) (hg : g = W.heap.size) : ∀ j u, l[j]? = some u → (W.alloc (.cells l.toArray T)).cell? ((⟨g, 0, none⟩ : Addr).add j) = some u := by
  subst hg
  intro j u hu
  have e : (⟨W.heap.size, 0, none⟩ : Addr).add j = ⟨W.heap.size, j, none⟩ := by unfold Addr.add; split <;> simp_all
  rw [e]
  have hh : (W.alloc (.cells l.toArray T)).heap[W.heap.size]? = some (.cells l.toArray T) := heap_alloc_new W _
  unfold World.cell?
  simp only [hh]
  simpa using hu
theorem token_ok' (s x : ByteArray) (k kd v : Nat) (w : World) (hs : s.size ≤ 9223372036854775807) (hk : k < s.size) (h : tokOf ((bs s).drop k) = .ok (kd, x.size, v)) (hx : s.extract k (k + x.size) = x) :
    Calls Tryd.prog 55 #[.string s, .int .i64 (k : Int)] w fun e w' =>
      e = .returned (.agg #[.int .i64 kd, .string x, .int .i64 v, .int .i64 k]) ∧ Below w.heap.size w w' := by
  have := token_ok s k kd x.size v w hs hk h
  rwa [hx] at this

set_option maxHeartbeats 2000000 in
theorem scan_any (s : ByteArray) (w : World) (hs : s.size ≤ 20000) :
    Calls Tryd.prog 30 #[.string s] w fun e w' => ScanEnd s w.heap.size e w' ∧ Below w.heap.size w w' := by
  obtain ⟨i0, hi, hz0, hz1, hz2⟩ := info_parts info_tok
  go_enter Tryd.func30, Tryd.ntmps30
  go_wp2_with fail
  refine (afterGaps_any s 0 _ (by omega) (by omega)).mono ?_
  rintro e w1 ⟨rfl, hb1⟩
  rw [Nat.zero_add, List.drop_zero]
  have HB1 := Lib.hid hb1; clear hb1
  go_wp2_with fail
  go_loopw [3, 4] (fun v i wr => ∃ (ts : List Tok) (p : Nat), i = .int .i64 p ∧ ScanRel s w ts p v wr) (fun _ i _ => s.size - (intOf i).toNat)
  case atStart => exact ⟨[], _, rfl, ScanRel.start s w w1 HB1.out⟩
  case round =>
    obtain ⟨ts, p, rfl, HR⟩ := hrel
    obtain ⟨A, cap, rfl⟩ := HR.form
    have hp := HR.1
    have h5 := HR.2.1
    have hB := HR.2.2.2.1.size
    by_cases hlt : p < s.size
    · cases htok : tokOf ((bs s).drop p) with
      | error er =>
        have HE := Lib.hid htok; clear htok
        go_wp2_with fail
        refine (token_no s p er _ (by omega) hlt HE.out).mono ?_
        rintro e w2 ⟨rfl, hb2⟩
        exact ⟨rfl, HR.err hlt HE.out, HR.2.2.2.1.trans (hb2.mono hB)⟩
      | ok x =>
        obtain ⟨k, len, n⟩ := x
        have HE := Lib.hid htok; clear htok
        have hlen := tokOf_len _ _ _ _ HE.out
        rw [List.length_drop, bs_length] at hlen
        obtain ⟨x, hxe, hxs⟩ : ∃ x, s.extract p (p + len) = x ∧ x.size = len := ⟨_, rfl, extract_size s p len (by omega)⟩
        subst hxs
        have HX := Lib.hid hxe; clear hxe
        by_cases hc : ts.length = 5000
        · have bc : ((ts.length : Int) == 5000) = true := beq_iff_eq.2 (by omega)
          have HC := Lib.hid hc; clear hc
          go_wp2_with fail
          refine (token_ok' s x p k n _ (by omega) hlt HE.out HX.out).mono ?_
          rintro e w2 ⟨rfl, hb2⟩
          go_wp2_with fail
          exact ⟨rfl, HR.full hlt HE.out HC.out, (HR.2.2.2.1.trans (hb2.mono hB)).alloc (Nat.le_trans hB hb2.size) _⟩
        · have bc : ((ts.length : Int) == 5000) = false := beq_eq_false_iff_ne.2 (by omega)
          go_wp2_with fail
          refine (token_ok' s x p k n _ (by omega) hlt HE.out HX.out).mono ?_
          rintro e w2 ⟨rfl, hb2⟩
          have hown2 := own_keep HR.2.2.1 hb2
          have hbw2 : Below w.heap.size w w2 := HR.2.2.2.1.trans (hb2.mono hB)
          have HB2 := Lib.hid hbw2; clear hbw2
          have hB2 : w.heap.size ≤ w2.heap.size := HB2.out.size
          have HO := Lib.hid hown2; clear hown2
          clear hb2
          go_wp2_with (at_builtin; refine wpList_append_own_at _ rfl _ _ 33 rfl w.heap.size 40 i0 _ 4 40 Tryd.underlying33 hi hz0 hz1 hz2 rfl (by decide) _ ts.length (cellsAll ts) rfl (own_keep (own_keep HO.out ((Below.refl _ _).alloc (Nat.le_refl _) _)) ((Below.refl _ _).alloc (Nat.le_refl _) _)) ⟨w2.heap.size + 1, 0, none⟩ 1 1 [.int .i64 k, .string x, .int .i64 n, .int .i64 p] rfl rfl ?c1 ?c2 ?c3 ?c4 ?c5 ?_)
          case c1 => exact cells_new _ [.int .i64 k, .string x, .int .i64 n, .int .i64 p] _ _ (by simp)
          case c2 => intro u hu; simp at hu; rcases hu with rfl | rfl | rfl | rfl <;> rfl
          case c3 => simp only [maxLen]; omega
          case c4 => omega
          case c5 => simp only [World.size_alloc]; omega
          intro v3 w3 hown3 hg3 hnil3 hat3
          obtain ⟨A3, cap3, rfl⟩ := own_form hown3
          have hne : ∀ g, (Value.slice A ts.length cap).ownBlock = some g → w.heap.size ≤ g ∧ g < w2.heap.size := own_lt HO.out
          have hB3 : Below w.heap.size w w3 := ((HB2.out.alloc hB2 _).alloc (by simp only [World.size_alloc]; omega) _).grown hg3 (by simp only [World.size_alloc]; omega) (fun k hk => (hne k hk).1)
          have qt : w3.cell? ⟨w2.heap.size, 1, none⟩ = some (.string x) := by
            rw [World.cell?_of_block (hg3.block w2.heap.size (by simp only [World.size_alloc]; omega) (fun e => by have := (hne _ e.symm).2; omega))]
            simp
          have HO3 := Lib.hid hown3; clear hown3
          have HB3 := Lib.hid hB3; clear hB3 hg3 hnil3 hat3 hne
          go_wp2_with fail
          rw [← Int.natCast_add]
          refine (afterGaps_any s (p + x.size) _ (by omega) (by omega)).mono ?_
          rintro e w4 ⟨rfl, hb4⟩
          have HB4 := Lib.hid hb4; clear hb4
          have hgl := gap_le s (p + x.size) (by omega)
          go_wp2_with fail
          go_roundw
          case rel => exact ⟨_, _, rfl, HR.step hlt HE.out hc (by rw [HX.out]; exact own_keep HO3.out HB4.out) (HB3.out.trans (HB4.out.mono HB3.out.size))⟩
          case measure => simp [intOf]; omega
    · go_wp2_with fail
      go_ret
      exact ⟨HR.done hlt, HR.2.2.2.1⟩
end Go.Proofs.YtfaflipphkoiiaaDoor.Lx
