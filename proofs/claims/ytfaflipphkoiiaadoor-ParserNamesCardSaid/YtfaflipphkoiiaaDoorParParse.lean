/-
  What Parse returns: the tree of a text, or its error and offset. What Parse returns where the parser finds an error. Trees in memory, as they are read: rows of items and of their lists.
-/
import Derived.Test.YtfaflipphkoiiaaDoorParSrc
import Derived.Test.YtfaflipphkoiiaaDoorLexWalkG
import Derived.Test.YtfaflipphkoiiaaDoorLexToks
namespace Go.Proofs.YtfaflipphkoiiaaDoor.Pr
open Go.RowKit Mem
open Lx (Tok bs cellsAll cellsOf)
set_option linter.unusedVariables false

theorem lexP_count : ∀ (f : Nat) (s : List UInt8) (p c : Nat) (ts : List Tok), c ≤ 5000 → Lx.lexP f s p c = .ok ts → c + ts.length ≤ 5000
  | 0, s, p, c, ts, hc, h => by
    simp only [Lx.lexP] at h
    injection h with h
    subst h
    simpa using hc
  | f + 1, s, p, c, ts, hc, h => by
    unfold Lx.lexP at h
    split at h
    · injection h with h
      subst h
      simpa using hc
    · split at h
      · cases h
      · split at h
        · cases h
        · rename_i k len v _ hc5
          cases hr : Lx.lexP f s (p + len + Lx.gapLen false (s.drop (p + len))) (c + 1) with
          | error e => rw [hr] at h; simp [Lx.comb] at h
          | ok us =>
            have := lexP_count f s _ (c + 1) us (by omega) hr
            rw [hr] at h
            simp only [Lx.comb, List.singleton_append] at h
            injection h with h
            subst h
            simp only [List.length_cons]
            omega
theorem lex_len {s : List UInt8} {ts : List Tok} (h : Lx.lex s = .ok ts) : ts.length ≤ 5000 := by
  unfold Lx.lex at h
  split at h
  · cases h
  · split at h
    · cases h
    · rename_i us hu
      injection h with h
      subst h
      have := lexP_count _ _ _ 0 us (by omega) hu
      omega
theorem cells_get (ts : List Tok) (i j : Nat) (h : i < ts.length) (hj : j < 4) : (cellsAll ts)[i * 4 + j]? = (cellsOf ts[i])[j]? := by
  induction ts generalizing i with
  | nil => simp at h
  | cons t ts ih =>
    have e : cellsAll (t :: ts) = cellsOf t ++ cellsAll ts := by simp [cellsAll]
    have hl : (cellsOf t).length = 4 := rfl
    rw [e]
    cases i with
    | zero => rw [Nat.zero_mul, Nat.zero_add, List.getElem?_append_left (by omega)]; rfl
    | succ i =>
      rw [List.getElem?_append_right (by omega), hl, show (i + 1) * 4 + j - 4 = i * 4 + j by omega, ih i (by simpa using h)]
      rfl
/-- A row of tokens that a call owns reads as the list. -/
theorem toks_of_own {w : World} {base n cap : Nat} {A : Option Addr} {ts : List Tok} (h : w.ownsRow base 40 4 (.slice A n cap) ts.length (cellsAll ts)) :
    0 < ts.length → ∃ g o, A = some ⟨g, o, none⟩ ∧ g < w.heap.size ∧ ∀ i (h : i < ts.length), w.cell? ⟨g, o + i * 4, none⟩ = some (.int .i64 (ts[i].kind : Int)) ∧ w.cell? ⟨g, o + i * 4 + 1, none⟩ = some (.string ⟨ts[i].text.toArray⟩) ∧
      w.cell? ⟨g, o + i * 4 + 2, none⟩ = some (.int .i64 (ts[i].n : Int)) ∧ w.cell? ⟨g, o + i * 4 + 3, none⟩ = some (.int .i64 (ts[i].pos : Int)) := by
  intro hpos
  rcases h.2 with ⟨_, h0⟩ | ⟨g, cap', cur, hv, hg, hh, hn, hm, hsz, ht⟩
  · omega
  · injection hv with hA _ _
    have hcell : ∀ k, k < ts.length * 4 → w.cell? ⟨g, k, none⟩ = (cellsAll ts)[k]? := by
      intro k hk
      unfold World.cell?
      simp only [hh]
      rw [← ht, List.getElem?_take, if_pos hk]
      simp
    refine ⟨g, 0, hA, lt_of_blk hh, fun i hi => ?_⟩
    have k0 := (hcell (i * 4 + 0) (by omega)).trans (cells_get ts i 0 hi (by omega))
    have k1 := (hcell (i * 4 + 1) (by omega)).trans (cells_get ts i 1 hi (by omega))
    have k2 := (hcell (i * 4 + 2) (by omega)).trans (cells_get ts i 2 hi (by omega))
    have k3 := (hcell (i * 4 + 3) (by omega)).trans (cells_get ts i 3 hi (by omega))
    simp only [Nat.zero_add]
    exact ⟨k0, k1, k2, k3⟩
/-- What a call of Parse ends with. -/
def ParseEnd (s : ByteArray) (B : Nat) (e : Ending) (w' : World) : Prop :=
  match parse (bs s) with
  | .error (er, p) => e = .returned (.tuple #[.agg (srcells [] civ0 0 nil).toArray, .int .i64 (er : Int), .int .i64 p])
  | .ok src => ∃ si, e = .returned (.tuple #[.agg (srcells src.name src.frm src.days si).toArray, .int .i64 0, .int .i64 0]) ∧ RowS B src.items si w'
/-- The package's variable lies below the heap's end and holds the days of the week. -/
def Wks (W : World) : Prop := 0 < W.heap.size ∧ Wk W
theorem Wks.below {W W' : World} (h : Wks W) (hb : Below W.heap.size W W') : Wks W' :=
  ⟨Nat.lt_of_lt_of_le h.1 hb.size, fun i x hx => (hb.cell (p := ⟨0, i, none⟩) h.1).trans (h.2 i x hx)⟩
theorem results_cell3 {fn : Func} {r a2 a3 : Nat} {T : TypeId} (hf : fn.results = #[.cell r T, .tmp a2, .tmp a3]) {tmps : Array Value} {w : World} {a : Addr} {v v2 v3 : Value} (ht : tmps.getD r undef = .pointer (some a)) (h2 : tmps.getD a2 undef = v2) (h3 : tmps.getD a3 undef = v3) (hl : (loadVar T a).run Tryd.prog w = .ok v w) :
    (results fn tmps).run Tryd.prog w = .ok (.tuple #[v, v2, v3]) w := by
  have ht' : tmps[r]?.getD undef = .pointer (some a) := by simpa using ht
  have h2' : tmps[a2]?.getD undef = v2 := by simpa using h2
  have h3' : tmps[a3]?.getD undef = v3 := by simpa using h3
  unfold results
  rw [hf]
  simp [ht', h2', h3', asAddr, hl]
theorem build_src (w : World) : (Instr.build 27 #[]).run Tryd.prog w = .ok (.agg (srcells [] civ0 0 nil).toArray) w := by kernel_rfl
theorem setCells_below {B : Nat} {w : World} {q : Nat} (hq : B ≤ q) (vs : List Value) : ∀ (o : Nat) (w2 : World), Below B w w2 → Below B w (w2.setCells q o vs) := by
  induction vs with
  | nil => intro o w2 h; exact h
  | cons v r ih => intro o w2 h; exact ih (o + 1) _ (h.setCell (p := ⟨q, o, none⟩) hq v)
theorem below_le {B B' : Nat} {a b : World} (h : Below B a b) (hle : B' ≤ B) : Below B' a b := ⟨h.os, h.tape, h.output, h.size, fun k hk => h.block k (by omega)⟩
theorem lexP_err_ne : ∀ (f : Nat) (s : List UInt8) (p c : Nat) (e q : Nat), Lx.lexP f s p c = .error (e, q) → e ≠ 0
  | 0, s, p, c, e, q, h => by simp only [Lx.lexP] at h; cases h
  | f + 1, s, p, c, e, q, h => by
    unfold Lx.lexP at h
    split at h
    · cases h
    · split at h
      · rename_i e' he
        injection h with h
        injection h with h1 h2
        have := Lx.tok_err he
        omega
      · split at h
        · injection h with h
          injection h with h1 h2
          omega
        · rename_i k len v _ hc5
          cases hr : Lx.lexP f s (p + len + Lx.gapLen false (s.drop (p + len))) (c + 1) with
          | error x =>
            rw [hr] at h
            simp only [Lx.comb] at h
            injection h with h
            obtain ⟨x1, x2⟩ := x
            injection h with h1 h2
            subst h1
            exact lexP_err_ne f s _ _ _ _ hr
          | ok us => rw [hr] at h; simp [Lx.comb] at h
theorem lex_err_ne {s : List UInt8} {e : Nat} {p : Int} (h : Lx.lex s = .error (e, p)) : e ≠ 0 := by
  unfold Lx.lex at h
  split at h
  · injection h with h
    injection h with h1 h2
    omega
  · split at h
    · rename_i e' p' hu
      injection h with h
      injection h with h1 h2
      subst h1
      exact lexP_err_ne _ _ _ _ _ _ hu
    · cases h
theorem ParseEnd.of_err {s : ByteArray} {B : Nat} {e : Ending} {w' : World} {er : Nat} {p : Int} (h : parse (bs s) = .error (er, p)) (he : e = .returned (.tuple #[.agg (srcells [] civ0 0 nil).toArray, .int .i64 (er : Int), .int .i64 p])) : ParseEnd s B e w' := by
  unfold ParseEnd; rw [h]; exact he
theorem ParseEnd.of_ok {s : ByteArray} {B : Nat} {e : Ending} {w' : World} {src : Source} {si : Value} (h : parse (bs s) = .ok src) (he : e = .returned (.tuple #[.agg (srcells src.name src.frm src.days si).toArray, .int .i64 0, .int .i64 0])) (hr : RowS B src.items si w') : ParseEnd s B e w' := by
  unfold ParseEnd; rw [h]; exact ⟨si, he, hr⟩

set_option maxRecDepth 100000 in
set_option maxHeartbeats 4000000 in
theorem parse_p1 (s : ByteArray) (w : World) (hs : s.size ≤ 9223372036854775807) (er : Nat) (p : Int) (hL : Lx.lex (bs s) = .error (er, p)) :
    Calls Tryd.prog 11 #[.string s] w fun e w' => ParseEnd s w.heap.size e w' ∧ Below w.heap.size w w' := by
  have hne := lex_err_ne hL
  have HPE : Hid (parse (bs s) = .error (er, p)) := by show parse (bs s) = _; unfold parse; rw [hL]
  have HL := Lib.hid hL; clear hL
  have hb0 : ((er : Int) == 0) = false := beq_eq_false_iff_ne.2 (by omega)
  go_enter Tryd.func11, Tryd.ntmps11
  go_wp2_with fail
  refine (Lx.lex_no s _ hs er p HL.out).mono ?_
  rintro e w1 ⟨rfl, hb⟩
  have HR1 : Hid (SB w.heap.size [] civ0 0 nil w1) := (hb.block w.heap.size (by simp)).trans (blk_newn (by simp))
  have HB1 := Lib.hid (((Below.refl w.heap.size w).alloc (Nat.le_refl _) _).trans (below_le hb (by simp))); clear hb
  have hl : (loadVar 27 ⟨w.heap.size, 0, none⟩).run Tryd.prog (w1.setCells w.heap.size 0 (srcells [] civ0 0 nil).toArray.toList) = .ok (.agg (srcells [] civ0 0 nil).toArray) (w1.setCells w.heap.size 0 (srcells [] civ0 0 nil).toArray.toList) := by
    rw [List.toList_toArray]
    exact run_loadVar_mid _ _ _ _ (srcells [] civ0 0 nil) _ (World.rangeAt_setCells_same _ _ _ _ HR1.out.there) Tryd.underlying27 rfl info_src
  have HB9 := Lib.hid (setCells_below (Nat.le_refl _) (srcells [] civ0 0 nil).toArray.toList 0 w1 HB1.out)
  generalize hw9 : w1.setCells w.heap.size 0 (srcells [] civ0 0 nil).toArray.toList = w9 at *
  have HL9 := Lib.hid hl; have HW9 := Lib.hid hw9
  clear hl hw9
  go_wp2_with (first | (refine wpList_build rfl 27 _ rfl #[] ?_ _ (build_src _) ?_; (simp)) | (refine wpList_store_mid rfl 27 _ _ rfl w.heap.size 0 (srcells [] civ0 0 nil).toArray rfl rfl HR1.out.there info_src (srcells_one _ _ _ _ ⟨_, _, _, rfl⟩) ?_; rw [HW9.out]))
  exact bodyPost_ret (results_cell3 Tryd.results11 rfl rfl rfl HL9.out) rfl ⟨ParseEnd.of_err HPE.out rfl, HB9.out⟩

/-- The parser at its start. -/
theorem PW_start {w1 : World} {base cap size : Nat} {A : Option Addr} {ts : List Tok} (hO : w1.ownsRow base 40 4 (.slice A ts.length cap) ts.length (cellsAll ts)) (hw : Wks w1) (hl : ts.length ≤ 5000) :
    PW ⟨ts, A, cap, size⟩ w1.heap.size ⟨ts, 0, 0⟩ (w1.alloc (.cells (pcells ⟨ts, A, cap, size⟩ 0 ⟨ts, 0, 0⟩) 67)) := by
  refine ⟨hl, Nat.zero_le _, by simp, ⟨⟨hw.1, ?_⟩, ?_⟩, 0, Nat.zero_le _, rfl, blk_new _ _⟩
  · intro i x hx
    rw [World.cell?_alloc_lt w1 _ _ hw.1]
    exact hw.2 i x hx
  · intro hp
    obtain ⟨g, o, hA, hg, hc⟩ := toks_of_own hO hp
    refine ⟨g, o, hA, hg, fun i hi => ?_⟩
    obtain ⟨a0, a1, a2, a3⟩ := hc i hi
    exact ⟨(World.cell?_alloc_lt w1 _ _ hg).trans a0, (World.cell?_alloc_lt w1 _ _ hg).trans a1, (World.cell?_alloc_lt w1 _ _ hg).trans a2, (World.cell?_alloc_lt w1 _ _ hg).trans a3⟩
theorem RowS.carry {base base' : Nat} {l : List Item} {v : Value} {W W' : World} (h : RowS base l v W) (hc : ∀ e z v n xs, W.ownsRow base e z v n xs → W'.ownsRow base' e z v n xs) : RowS base' l v W' := by
  obtain ⟨vs, h⟩ := h
  exact ⟨vs, h.carry hc⟩

set_option maxRecDepth 100000 in
set_option maxHeartbeats 4000000 in
theorem parse_p3 (s : ByteArray) (w : World) (hs : s.size ≤ 9223372036854775807) (hw : Wks w) (ts : List Tok) (hL : Lx.lex (bs s) = .ok ts) (src : Source) (sx : St) (hS : source ⟨ts, 0, 0⟩ = (src, sx)) (he : sx.err = 0) :
    Calls Tryd.prog 11 #[.string s] w fun e w' => ParseEnd s w.heap.size e w' ∧ Below w.heap.size w w' := by
  have HPE : Hid (parse (bs s) = .ok src) := by show parse (bs s) = _; unfold parse; rw [hL]; simp only; rw [hS]; simp only; rw [if_pos he]
  have HLN := Lib.hid (lex_len hL)
  have HL := Lib.hid hL; have HS := Lib.hid hS; have HE := Lib.hid he; have HWK := Lib.hid hw
  clear hL hS he hw
  go_enter Tryd.func11, Tryd.ntmps11
  go_wp2_with fail
  refine (Lx.lex_ok s _ hs ts HL.out).mono ?_
  rintro e w1 ⟨⟨A, cap, rfl, hO⟩, hb⟩
  have HR1 : Hid (SB w.heap.size [] civ0 0 nil w1) := (hb.block w.heap.size (by simp)).trans (blk_newn (by simp))
  have HB1 : Hid (Below w.heap.size w w1) := ((Below.refl w.heap.size w).alloc (Nat.le_refl _) _).trans (below_le hb (by simp))
  have HO := Lib.hid hO
  have hsz1 : w.heap.size < w1.heap.size := lt_of_blk HR1.out
  clear hb hO
  have HPW : Hid (PW ⟨ts, A, cap, s.size⟩ w1.heap.size ⟨ts, 0, 0⟩ (w1.alloc (.cells (pcells ⟨ts, A, cap, s.size⟩ 0 ⟨ts, 0, 0⟩) 67))) := PW_start HO.out (HWK.out.below HB1.out) HLN.out
  go_wp2_with fail
  refine (source_any ⟨ts, A, cap, s.size⟩ w1.heap.size ⟨ts, 0, 0⟩ _ HPW.out).mono ?_
  rw [HS.out]
  rintro e w2 ⟨⟨si, rfl, hRS⟩, hA⟩
  obtain ⟨n0, _, _, _, _, _, _, c4, c5⟩ := hA.1.cells
  rw [HE.out] at c4
  have HR2 : Hid (SB w.heap.size [] civ0 0 nil w2) := hA.2.blk (blk_alloc HR1.out _) (by omega)
  have HB2 : Hid (Below w.heap.size w w2) := HB1.out.trans (((Fr.refl (fun k => k = w1.heap.size) w1).alloc _).trans hA.2 |>.below (by omega) (fun k hk => by omega))
  have HRS2 : Hid (RowS (w.heap.size + 1) src.items si w2) := hRS.carry fun e z v n xs ho => own_base ho (by simp only [World.size_alloc]; omega)
  have hq2 := hA.1.2.2.1
  have hf : ∃ A n c, si = .slice A n c := by obtain ⟨vs, h⟩ := hRS; obtain ⟨A, c, e⟩ := h.form; exact ⟨A, _, c, e⟩
  have HF := Lib.hid hf
  clear hA hRS c5 HPW HR1 hf
  have a4 : ∀ o, (w2.alloc o).cell? ⟨w1.heap.size, 4, none⟩ = some (.int .i64 0) := fun o => (World.cell?_alloc_lt w2 o ⟨w1.heap.size, 4, none⟩ hq2).trans c4
  clear c4
  have HS3 : Hid (SB w2.heap.size src.name src.frm src.days si (w2.alloc (.cells (srcells src.name src.frm src.days si).toArray 27))) := blk_newn rfl
  have HR3 : Hid (SB w.heap.size [] civ0 0 nil (w2.alloc (.cells (srcells src.name src.frm src.days si).toArray 27))) := blk_alloc HR2.out _
  have HB3 : Hid (Below w.heap.size w (w2.alloc (.cells (srcells src.name src.frm src.days si).toArray 27))) := HB2.out.alloc (by have := HB2.out.size; omega) _
  have HRS3 : Hid (RowS (w.heap.size + 1) src.items si (w2.alloc (.cells (srcells src.name src.frm src.days si).toArray 27))) := HRS2.out.carry fun e z v n xs ho => own_fr ho ((Fr.refl (fun _ => False) _).alloc _) (fun _ _ _ h => h)
  have HLV : Hid (∀ w3, SB w.heap.size [] civ0 0 nil w3 → (loadVar 27 ⟨w.heap.size, 0, none⟩).run Tryd.prog (w3.setCells w.heap.size 0 (srcells src.name src.frm src.days si).toArray.toList) = .ok (.agg (srcells src.name src.frm src.days si).toArray) (w3.setCells w.heap.size 0 (srcells src.name src.frm src.days si).toArray.toList)) := by
    intro w3 hw3
    rw [List.toList_toArray]
    exact run_loadVar_mid _ _ _ _ (srcells src.name src.frm src.days si) _ (World.rangeAt_setCells_same _ _ _ _ hw3.there) Tryd.underlying27 rfl info_src
  have HL9 := Lib.hid (HLV.out _ HR3.out)
  have HB9 := Lib.hid (setCells_below (Nat.le_refl _) (srcells src.name src.frm src.days si).toArray.toList 0 _ HB3.out)
  have HRS9 : Hid (RowS w.heap.size src.items si ((w2.alloc (.cells (srcells src.name src.frm src.days si).toArray 27)).setCells w.heap.size 0 (srcells src.name src.frm src.days si).toArray.toList)) := HRS3.out.carry fun e z v n xs ho => own_base (own_fr ho (Fr.setCells (S := fun k => k = w.heap.size) (.inl rfl) _ _ _ (Fr.refl _ _)) (fun k hk _ e => by omega)) (by omega)
  obtain ⟨w9, hw9⟩ : ∃ w9, (w2.alloc (.cells (srcells src.name src.frm src.days si).toArray 27)).setCells w.heap.size 0 (srcells src.name src.frm src.days si).toArray.toList = w9 := ⟨_, rfl⟩
  rw [hw9] at HL9 HB9 HRS9
  have HW9 := Lib.hid hw9
  clear hw9 HLV HB3 HRS3 HB2 HRS2 HR2
  go_wp2_with (first | (refine wpList_store_new rfl 27 _ _ rfl rfl (srcells src.name src.frm src.days si).toArray rfl info_src (srcells_one _ _ _ _ HF.out) (by rfl) ?_) | (refine wpList_load_mid rfl 27 _ rfl w2.heap.size 0 rfl (srcells src.name src.frm src.days si) _ HS3.out.range Tryd.underlying27 rfl info_src ?_) | (refine wpList_store_mid rfl 27 _ _ rfl w.heap.size 0 (srcells src.name src.frm src.days si).toArray rfl rfl HR3.out.there info_src (srcells_one _ _ _ _ HF.out) ?_; rw [HW9.out]))
  exact bodyPost_ret (results_cell3 Tryd.results11 rfl rfl rfl HL9.out) rfl ⟨ParseEnd.of_ok HPE.out rfl HRS9.out, HB9.out⟩
end Go.Proofs.YtfaflipphkoiiaaDoor.Pr
namespace Go.Proofs.YtfaflipphkoiiaaDoor.Pr
open Go.RowKit Mem
open Lx (Tok bs cellsAll cellsOf)
set_option linter.unusedVariables false

set_option maxRecDepth 100000 in
set_option maxHeartbeats 400000 in
theorem parse_p2 (s : ByteArray) (w : World) (hs : s.size ≤ 9223372036854775807) (hw : Wks w) (ts : List Tok) (hL : Lx.lex (bs s) = .ok ts) (src : Source) (sx : St) (hS : source ⟨ts, 0, 0⟩ = (src, sx)) (he : sx.err ≠ 0) :
    Calls Tryd.prog 11 #[.string s] w fun e w' => ParseEnd s w.heap.size e w' ∧ Below w.heap.size w w' := by
  have HPE : Hid (parse (bs s) = .error (sx.err, (atOf s.size sx : Int))) := by show parse (bs s) = _; unfold parse; rw [hL]; simp only; rw [hS]; simp only; rw [if_neg he, Lx.bs_length]
  have HLN := Lib.hid (lex_len hL)
  have HL := Lib.hid hL; have HS := Lib.hid hS; have HE := Lib.hid he; have HWK := Lib.hid hw
  clear hL hS he hw
  go_enter Tryd.func11, Tryd.ntmps11
  go_wp2_with fail
  refine (Lx.lex_ok s _ hs ts HL.out).mono ?_
  rintro e w1 ⟨⟨A, cap, rfl, hO⟩, hb⟩
  have HR1 : Hid (SB w.heap.size [] civ0 0 nil w1) := (hb.block w.heap.size (by simp)).trans (blk_newn (by simp))
  have HB1 : Hid (Below w.heap.size w w1) := ((Below.refl w.heap.size w).alloc (Nat.le_refl _) _).trans (below_le hb (by simp))
  have HO := Lib.hid hO
  have hsz1 : w.heap.size < w1.heap.size := lt_of_blk HR1.out
  clear hb hO
  have HPW : Hid (PW ⟨ts, A, cap, s.size⟩ w1.heap.size ⟨ts, 0, 0⟩ (w1.alloc (.cells (pcells ⟨ts, A, cap, s.size⟩ 0 ⟨ts, 0, 0⟩) 67))) := PW_start HO.out (HWK.out.below HB1.out) HLN.out
  go_wp2_with fail
  refine (source_any ⟨ts, A, cap, s.size⟩ w1.heap.size ⟨ts, 0, 0⟩ _ HPW.out).mono ?_
  rw [HS.out]
  rintro e w2 ⟨⟨si, rfl, hRS⟩, hA⟩
  obtain ⟨n0, _, _, _, _, _, _, c4, c5⟩ := hA.1.cells
  have HR2 : Hid (SB w.heap.size [] civ0 0 nil w2) := hA.2.blk (blk_alloc HR1.out _) (by omega)
  have HB2 : Hid (Below w.heap.size w w2) := HB1.out.trans (((Fr.refl (fun k => k = w1.heap.size) w1).alloc _).trans hA.2 |>.below (by omega) (fun k hk => by omega))
  have HRS2 : Hid (RowS (w.heap.size + 1) src.items si w2) := hRS.carry fun e z v n xs ho => own_base ho (by simp only [World.size_alloc]; omega)
  have hq2 := hA.1.2.2.1
  have hf : ∃ A n c, si = .slice A n c := by obtain ⟨vs, h⟩ := hRS; obtain ⟨A, c, e⟩ := h.form; exact ⟨A, _, c, e⟩
  have HF := Lib.hid hf
  clear hA hRS HPW HR1 hf HRS2
  have a4 : ∀ o, (w2.alloc o).cell? ⟨w1.heap.size, 4, none⟩ = some (.int .i64 (sx.err : Int)) := fun o => (World.cell?_alloc_lt w2 o ⟨w1.heap.size, 4, none⟩ hq2).trans c4
  have a5 : ∀ o, (w2.alloc o).cell? ⟨w1.heap.size, 5, none⟩ = some (.int .i64 (atOf s.size sx : Int)) := fun o => (World.cell?_alloc_lt w2 o ⟨w1.heap.size, 5, none⟩ hq2).trans c5
  clear c4 c5
  have hb0 : ((sx.err : Int) == 0) = false := beq_eq_false_iff_ne.2 (by have := HE.out; omega)
  have HR3 : Hid (SB w.heap.size [] civ0 0 nil (w2.alloc (.cells (srcells src.name src.frm src.days si).toArray 27))) := blk_alloc HR2.out _
  have HB3 : Hid (Below w.heap.size w (w2.alloc (.cells (srcells src.name src.frm src.days si).toArray 27))) := HB2.out.alloc (by have := HB2.out.size; omega) _
  have g4 := a4 (.cells (srcells src.name src.frm src.days si).toArray 27)
  have g5 := a5 (.cells (srcells src.name src.frm src.days si).toArray 27)
  clear HB2 HR2
  go_wp2_with (refine wpList_store_new rfl 27 _ _ rfl rfl (srcells src.name src.frm src.days si).toArray rfl info_src (srcells_one _ _ _ _ HF.out) (by rfl) ?_)
  clear a4 a5
  generalize w2.alloc (.cells (srcells src.name src.frm src.days si).toArray 27) = w3 at *
  have r0 : w3.cell? ⟨w.heap.size, 0, none⟩ = some (.string ⟨#[]⟩) := cell_of_blk HR3.out 0
  have r1 : w3.cell? ⟨w.heap.size, 1, none⟩ = some (.int .i64 0) := cell_of_blk HR3.out 1
  have r2 : w3.cell? ⟨w.heap.size, 2, none⟩ = some (.int .i64 0) := cell_of_blk HR3.out 2
  have r3 : w3.cell? ⟨w.heap.size, 3, none⟩ = some (.int .i64 0) := cell_of_blk HR3.out 3
  have r4 : w3.cell? ⟨w.heap.size, 4, none⟩ = some (.int .i64 0) := cell_of_blk HR3.out 4
  have r5 : w3.cell? ⟨w.heap.size, 5, none⟩ = some (.slice none 0 0) := cell_of_blk HR3.out 5
  have z0 : w3.frozen? ⟨w.heap.size, 0, none⟩ = false := froz_of_blk HR3.out 0
  have z1 : w3.frozen? ⟨w.heap.size, 1, none⟩ = false := froz_of_blk HR3.out 1
  have z2 : w3.frozen? ⟨w.heap.size, 2, none⟩ = false := froz_of_blk HR3.out 2
  have z3 : w3.frozen? ⟨w.heap.size, 3, none⟩ = false := froz_of_blk HR3.out 3
  have z4 : w3.frozen? ⟨w.heap.size, 4, none⟩ = false := froz_of_blk HR3.out 4
  have z5 : w3.frozen? ⟨w.heap.size, 5, none⟩ = false := froz_of_blk HR3.out 5
  go_region
  have HS9 : Hid (SB w.heap.size [] civ0 0 nil ((((((w3.setCell ⟨w.heap.size, 0, none⟩ (.string ⟨#[]⟩)).setCell ⟨w.heap.size, 1, none⟩ (.int .i64 0)).setCell ⟨w.heap.size, 2, none⟩ (.int .i64 0)).setCell ⟨w.heap.size, 3, none⟩ (.int .i64 0)).setCell ⟨w.heap.size, 4, none⟩ (.int .i64 0)).setCell ⟨w.heap.size, 5, none⟩ (.slice none 0 0)).drew) := by
    have b0 : w3.heap[w.heap.size]? = some (.cells (srcells [] civ0 0 nil).toArray 27 (0, 0)) := HR3.out
    have b1 := blk_set b0 0 (.string ⟨#[]⟩)
    have b2 := blk_set b1 1 (.int .i64 0)
    have b3 := blk_set b2 2 (.int .i64 0)
    have b4 := blk_set b3 3 (.int .i64 0)
    have b5 := blk_set b4 4 (.int .i64 0)
    have b6 := blk_set b5 5 (.slice none 0 0)
    exact blk_drewN b6 1
  have HB9 : Hid (Below w.heap.size w ((((((w3.setCell ⟨w.heap.size, 0, none⟩ (.string ⟨#[]⟩)).setCell ⟨w.heap.size, 1, none⟩ (.int .i64 0)).setCell ⟨w.heap.size, 2, none⟩ (.int .i64 0)).setCell ⟨w.heap.size, 3, none⟩ (.int .i64 0)).setCell ⟨w.heap.size, 4, none⟩ (.int .i64 0)).setCell ⟨w.heap.size, 5, none⟩ (.slice none 0 0)).drew) := by
    show Below w.heap.size w ((((((w3.setCell ⟨w.heap.size, 0, none⟩ (.string ⟨#[]⟩)).setCell ⟨w.heap.size, 1, none⟩ (.int .i64 0)).setCell ⟨w.heap.size, 2, none⟩ (.int .i64 0)).setCell ⟨w.heap.size, 3, none⟩ (.int .i64 0)).setCell ⟨w.heap.size, 4, none⟩ (.int .i64 0)).setCell ⟨w.heap.size, 5, none⟩ (.slice none 0 0)).drew
    exact below_drewN ((((((HB3.out.setCell (p := ⟨w.heap.size, 0, none⟩) (Nat.le_refl _) _).setCell (p := ⟨w.heap.size, 1, none⟩) (Nat.le_refl _) _).setCell (p := ⟨w.heap.size, 2, none⟩) (Nat.le_refl _) _).setCell (p := ⟨w.heap.size, 3, none⟩) (Nat.le_refl _) _).setCell (p := ⟨w.heap.size, 4, none⟩) (Nat.le_refl _) _).setCell (p := ⟨w.heap.size, 5, none⟩) (Nat.le_refl _) _) 1
  clear r0 r1 r2 r3 r4 r5 z0 z1 z2 z3 z4 z5 g4 g5
  generalize ((((((w3.setCell ⟨w.heap.size, 0, none⟩ (.string ⟨#[]⟩)).setCell ⟨w.heap.size, 1, none⟩ (.int .i64 0)).setCell ⟨w.heap.size, 2, none⟩ (.int .i64 0)).setCell ⟨w.heap.size, 3, none⟩ (.int .i64 0)).setCell ⟨w.heap.size, 4, none⟩ (.int .i64 0)).setCell ⟨w.heap.size, 5, none⟩ (.slice none 0 0)).drew = w9 at *
  have HL9 : Hid ((loadVar 27 ⟨w.heap.size, 0, none⟩).run Tryd.prog w9 = .ok (.agg (srcells [] civ0 0 nil).toArray) w9) := run_loadVar_mid _ _ _ _ (srcells [] civ0 0 nil) _ HS9.out.range Tryd.underlying27 rfl info_src
  go_wp2_with fail
  exact bodyPost_ret (results_cell3 Tryd.results11 rfl rfl rfl HL9.out) rfl ⟨ParseEnd.of_err HPE.out rfl, HB9.out⟩

theorem parse_any (s : ByteArray) (w : World) (hs : s.size ≤ 9223372036854775807) (hw : Wks w) :
    Calls Tryd.prog 11 #[.string s] w fun e w' => ParseEnd s w.heap.size e w' ∧ Below w.heap.size w w' := by
  cases hL : Lx.lex (bs s) with
  | error x =>
    obtain ⟨er, p⟩ := x
    exact parse_p1 s w hs er p hL
  | ok ts =>
    obtain ⟨src, sx, hS⟩ : ∃ src sx, source ⟨ts, 0, 0⟩ = (src, sx) := ⟨_, _, rfl⟩
    by_cases he : sx.err = 0
    · exact parse_p3 s w hs hw ts hL src sx hS he
    · exact parse_p2 s w hs hw ts hL src sx hS he
theorem parse_ok (s : ByteArray) (w : World) (hs : s.size ≤ 9223372036854775807) (hw : Wks w) (src : Source) (h : parse (bs s) = .ok src) :
    Calls Tryd.prog 11 #[.string s] w fun e w' => (∃ si, e = .returned (.tuple #[.agg (srcells src.name src.frm src.days si).toArray, .int .i64 0, .int .i64 0]) ∧ RowS w.heap.size src.items si w') ∧ Below w.heap.size w w' := by
  refine (parse_any s w hs hw).mono fun e w' ⟨h1, h2⟩ => ⟨?_, h2⟩
  unfold ParseEnd at h1
  rw [h] at h1
  exact h1
theorem parse_no (s : ByteArray) (w : World) (hs : s.size ≤ 9223372036854775807) (hw : Wks w) (er : Nat) (p : Int) (h : parse (bs s) = .error (er, p)) :
    Calls Tryd.prog 11 #[.string s] w fun e w' => e = .returned (.tuple #[.agg (srcells [] civ0 0 nil).toArray, .int .i64 (er : Int), .int .i64 p]) ∧ Below w.heap.size w w' := by
  refine (parse_any s w hs hw).mono fun e w' ⟨h1, h2⟩ => ⟨?_, h2⟩
  unfold ParseEnd at h1
  rw [h] at h1
  exact h1
end Go.Proofs.YtfaflipphkoiiaaDoor.Pr
namespace Go.Proofs.YtfaflipphkoiiaaDoor.Pr
open Go.RowKit Mem
open Lx (Tok bs)
set_option linter.unusedVariables false

/-- A row of elements of z cells each reads so. -/
def Row (W : World) (v : Value) (z : Nat) (xs : List (List Value)) : Prop :=
  ∃ A cap, v = .slice A xs.length cap ∧ (xs.length ≤ cap ∧ cap ≤ 9223372036854775807) ∧ (xs = [] ∨ ∃ g o, A = some ⟨g, o, none⟩ ∧ g < W.heap.size ∧ ∀ i x, xs[i]? = some x → W.rangeAt g (o + i * z) x)
theorem Row.below {W W' : World} {v : Value} {z : Nat} {xs : List (List Value)} (h : Row W v z xs) (hb : Below W.heap.size W W') : Row W' v z xs := by
  obtain ⟨A, cap, rfl, hc, h⟩ := h
  refine ⟨A, cap, rfl, hc, ?_⟩
  rcases h with h | ⟨g, o, hA, hg, hr⟩
  · exact .inl h
  · refine .inr ⟨g, o, hA, Nat.lt_of_lt_of_le hg hb.size, fun i x hx j u hj => ?_⟩
    exact (hb.cell (p := ⟨g, _, none⟩) hg).trans (hr i x hx j u hj)
theorem Row.nil (W : World) (z : Nat) : Row W Pr.nil z [] := ⟨none, 0, rfl, ⟨Nat.le_refl _, by decide⟩, .inl rfl⟩
theorem flat_at {α : Type} (f : α → List Value) (z : Nat) (l : List α) (hz : ∀ x ∈ l, (f x).length = z) : ∀ (i : Nat) (x : List Value), (l.map f)[i]? = some x → ∀ j u, x[j]? = some u → (l.flatMap f)[i * z + j]? = some u := by
  induction l with
  | nil => intro i x hx; simp at hx
  | cons a l ih =>
    intro i x hx j u hj
    have ha := hz a (by simp)
    rw [List.flatMap_cons]
    cases i with
    | zero =>
      simp only [List.map_cons, List.getElem?_cons_zero] at hx
      injection hx with hx
      subst hx
      have hl : j < (f a).length := (List.getElem?_eq_some_iff.1 hj).1
      rw [Nat.zero_mul, Nat.zero_add, List.getElem?_append_left hl]
      exact hj
    | succ i =>
      simp only [List.map_cons, List.getElem?_cons_succ] at hx
      rw [List.getElem?_append_right (by rw [ha, Nat.succ_mul]; omega), ha, show (i + 1) * z + j - z = i * z + j by rw [Nat.succ_mul]; omega]
      exact ih (fun x hx => hz x (by simp [hx])) i x hx j u hj
theorem Row.of_own {α : Type} {f : α → List Value} {z : Nat} {l : List α} {W : World} {base : Nat} {e : TypeId} {v : Value} (h : W.ownsRow base e z v l.length (l.flatMap f)) (hz : ∀ x ∈ l, (f x).length = z) : Row W v z (l.map f) := by
  rcases h.2 with ⟨rfl, h0⟩ | ⟨g, cap, cur, rfl, hg, hh, hn, hm, hsz, ht⟩
  · have : l = [] := List.eq_nil_of_length_eq_zero h0
    subst this
    exact Row.nil W z
  · refine ⟨_, cap, by rw [List.length_map], ⟨by rw [List.length_map]; exact hn, by unfold maxLen at hm; omega⟩, .inr ⟨g, 0, rfl, lt_of_blk hh, fun i x hx j u hj => ?_⟩⟩
    have := flat_at f z l hz i x hx j u hj
    rw [Nat.zero_add]
    unfold World.cell?
    simp only [hh]
    rw [← ht, List.getElem?_take] at this
    split at this
    · simpa using this
    · cases this
theorem Row.len {W : World} {v : Value} {z : Nat} {xs : List (List Value)} (h : Row W v z xs) : xs.length ≤ 9223372036854775807 := by
  obtain ⟨A, c, e, ⟨h1, h2⟩, _⟩ := h
  omega
abbrev Sx := Flat × Value × Value × Value × Value
def IsSlice (v : Value) : Prop := ∃ A n c, v = .slice A n c
def sxc (x : Sx) : List Value := icells x.1 x.2.1 x.2.2.1 x.2.2.2.1 x.2.2.2.2
theorem Row.form {W : World} {v : Value} {z : Nat} {xs : List (List Value)} (h : Row W v z xs) : ∃ A n c, v = .slice A n c := by
  obtain ⟨A, c, e, _⟩ := h
  exact ⟨A, _, c, e⟩
theorem Row.at {W : World} {v : Value} {z : Nat} {xs : List (List Value)} (h : Row W v z xs) (hne : xs ≠ []) : ∃ g o cap, v = .slice (some ⟨g, o, none⟩) xs.length cap ∧ g < W.heap.size ∧ ∀ i x, xs[i]? = some x → W.rangeAt g (o + i * z) x := by
  obtain ⟨A, c, e, _, hr⟩ := h
  obtain ⟨g, o, hA, hg, hr2⟩ := hr.resolve_left hne
  subst hA
  exact ⟨g, o, c, e, hg, hr2⟩
def VFlat (W : World) (f : Flat) (sc sd sn : Value) : Prop := Row W sc 2 (f.conds.map cval) ∧ Row W sd 3 (f.dates.map dval) ∧ Row W sn 1 (f.names.map fun x => [sv x])
def VInner (W : World) (l : List Flat) (v : Value) : Prop := ∃ vs : List (Value × Value × Value), vs.length = l.length ∧ Row W v 33 ((l.zip vs).map fun p => icells p.1 p.2.1 p.2.2.1 p.2.2.2 nil) ∧ ∀ p ∈ l.zip vs, VFlat W p.1 p.2.1 p.2.2.1 p.2.2.2
def VItems (W : World) (l : List Item) (v : Value) : Prop := ∃ vs : List Sl, vs.length = l.length ∧ Row W v 33 ((l.zip vs).map fun p => icells p.1.flat p.2.1 p.2.2.1 p.2.2.2.1 p.2.2.2.2) ∧ ∀ p ∈ l.zip vs, VFlat W p.1.flat p.2.1 p.2.2.1 p.2.2.2.1 ∧ VInner W p.1.inner p.2.2.2.2
theorem VFlat.below {W W' : World} {f : Flat} {sc sd sn : Value} (h : VFlat W f sc sd sn) (hb : Below W.heap.size W W') : VFlat W' f sc sd sn := ⟨h.1.below hb, h.2.1.below hb, h.2.2.below hb⟩
theorem VInner.below {W W' : World} {l : List Flat} {v : Value} (h : VInner W l v) (hb : Below W.heap.size W W') : VInner W' l v := by
  obtain ⟨vs, h1, h2, h3⟩ := h
  exact ⟨vs, h1, h2.below hb, fun p hp => (h3 p hp).below hb⟩
theorem VItems.below {W W' : World} {l : List Item} {v : Value} (h : VItems W l v) (hb : Below W.heap.size W W') : VItems W' l v := by
  obtain ⟨vs, h1, h2, h3⟩ := h
  exact ⟨vs, h1, h2.below hb, fun p hp => ⟨(h3 p hp).1.below hb, (h3 p hp).2.below hb⟩⟩
theorem VFlat.of {W : World} {base : Nat} {f : Flat} {sc sd sn : Value} (h : FlatOK base f sc sd sn W) : VFlat W f sc sd sn := by
  refine ⟨Row.of_own h.1 (fun _ _ => rfl), Row.of_own h.2.1 (fun _ _ => rfl), ?_⟩
  have e : f.names.map sv = f.names.flatMap fun x => [sv x] := by induction f.names with | nil => rfl | cons a l ih => simp [ih]
  have h3 := h.2.2
  rw [e] at h3
  exact Row.of_own h3 (fun _ _ => rfl)
theorem zip_len {α β : Type} {l : List α} {vs : List β} (h : vs.length = l.length) : (l.zip vs).length = l.length := by simp [h]
theorem VInner.of {W : World} {base : Nat} {l : List Flat} {v : Value} (h : RowI base l v W) : VInner W l v := by
  obtain ⟨_, vs, h1, h2, h3⟩ := h
  rw [← zip_len h1] at h2
  exact ⟨vs, h1, Row.of_own h2 (fun _ _ => rfl), fun p hp => VFlat.of (h3 p hp)⟩
theorem VItems.of {W : World} {base : Nat} {l : List Item} {v : Value} (h : RowS base l v W) : VItems W l v := by
  obtain ⟨vs, _, h1, h2, h3⟩ := h
  unfold scells at h2
  rw [← zip_len h1] at h2
  exact ⟨vs, h1, Row.of_own h2 (fun _ _ => rfl), fun p hp => ⟨VFlat.of (h3 p hp).1, VInner.of (h3 p hp).2.1⟩⟩
theorem VItems.form {W : World} {l : List Item} {v : Value} (h : VItems W l v) : ∃ A cap, v = .slice A l.length cap ∧ l.length ≤ cap := by
  obtain ⟨vs, h1, ⟨A, cap, e, hc, _⟩, _⟩ := h
  rw [List.length_map, zip_len h1] at e hc
  exact ⟨A, cap, e, hc.1⟩
theorem VItems.slice {W : World} {l : List Item} {v : Value} (h : VItems W l v) : ∃ A n c, v = .slice A n c := by
  obtain ⟨A, cap, e, _⟩ := h.form
  exact ⟨A, _, cap, e⟩

theorem VInner.form {W : World} {l : List Flat} {v : Value} (h : VInner W l v) : ∃ A n c, v = .slice A n c := by
  obtain ⟨vs, _, h, _⟩ := h
  exact h.form
/-- Parse, with what it returns as a view. -/
theorem parse_okv (s : ByteArray) (w : World) (hs : s.size ≤ 9223372036854775807) (hw : Wks w) (src : Source) (h : parse (bs s) = .ok src) :
    Calls Tryd.prog 11 #[.string s] w fun e w' => (∃ si, e = .returned (.tuple #[.agg (srcells src.name src.frm src.days si).toArray, .int .i64 0, .int .i64 0]) ∧ VItems w' src.items si) ∧ Below w.heap.size w w' :=
  (parse_ok s w hs hw src h).mono fun e w' ⟨⟨si, he, hr⟩, hb⟩ => ⟨⟨si, he, VItems.of hr⟩, hb⟩
end Go.Proofs.YtfaflipphkoiiaaDoor.Pr
