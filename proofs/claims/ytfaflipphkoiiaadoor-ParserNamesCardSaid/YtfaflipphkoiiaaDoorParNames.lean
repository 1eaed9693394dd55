/-
  The tree of a text that is made of names and a number.
-/
import Derived.Test.YtfaflipphkoiiaaDoorParLike
namespace Go.Proofs.YtfaflipphkoiiaaDoor.Pr
open Lx (Tok Toks skip gapLen gapLen_blank gapLen_other tok_len tokOf tokOf_app ends ends32 toks_congr isDigit isLetter isWord isSym valFrom valFrom_snoc valFrom_nil numLen wordAt)
set_option linter.unusedVariables false

def digit (d : Nat) : UInt8 := (48 + d).toUInt8
/-- The decimal text of a number; the first argument: one less than a bound of its digits. -/
def dec : Nat → Nat → List UInt8
  | 0, n => [digit n]
  | f + 1, n => if n < 10 then [digit n] else dec f (n / 10) ++ [digit (n % 10)]
theorem dec_len (f n : Nat) : (dec f n).length ≤ f + 1 := by
  induction f generalizing n with
  | zero => simp [dec]
  | succ f ih => unfold dec; split; simp; rw [List.length_append]; have := ih (n / 10); simp; omega
theorem digit_is (d : Nat) (h : d < 10) : isDigit (digit d) = true ∧ (digit d).toNat = 48 + d ∧ isLetter (digit d) = false := by
  have e : (digit d).toNat = 48 + d := by unfold digit; simp [Nat.toUInt8]; omega
  refine ⟨?_, e, ?_⟩
  · unfold isDigit; rw [e]; simp; omega
  · unfold isLetter; rw [e]; simp; omega
theorem dec_digits (f n : Nat) (h : n < 10 ^ (f + 1)) : ∀ c ∈ dec f n, isDigit c = true := by
  induction f generalizing n with
  | zero => intro c hc; simp [dec] at hc; subst hc; exact (digit_is n (by simpa using h)).1
  | succ f ih =>
    intro c hc
    unfold dec at hc
    split at hc
    · rename_i h10; simp at hc; subst hc; exact (digit_is n h10).1
    · rcases List.mem_append.1 hc with hc | hc
      · exact ih (n / 10) (by rw [Nat.pow_succ] at h; omega) c hc
      · simp at hc; subst hc; exact (digit_is _ (Nat.mod_lt _ (by omega))).1
theorem dec_val (f n : Nat) (h : n < 10 ^ (f + 1)) : valFrom 0 (dec f n) = n := by
  induction f generalizing n with
  | zero =>
    have h10 : n < 10 := by simpa using h
    have := valFrom_snoc [] (digit n) 0
    simp only [List.nil_append, valFrom_nil] at this
    show valFrom 0 [digit n] = n
    rw [this, (digit_is n h10).2.1]; omega
  | succ f ih =>
    unfold dec
    split
    · rename_i h10
      have := valFrom_snoc [] (digit n) 0
      simp only [List.nil_append, valFrom_nil] at this
      rw [this, (digit_is n h10).2.1]; omega
    · rw [valFrom_snoc, ih (n / 10) (by rw [Nat.pow_succ] at h; omega), (digit_is (n % 10) (Nat.mod_lt _ (by omega))).2.1]; omega
theorem dec_ne (f n : Nat) : dec f n ≠ [] := by
  cases f with
  | zero => simp [dec]
  | succ f => unfold dec; split <;> simp
theorem numLen_all (l : List UInt8) (h : ∀ c ∈ l, isDigit c = true) : numLen l = l.length := by
  induction l with
  | nil => rfl
  | cons a l ih => rw [numLen, if_pos (h a (by simp)), ih (fun c hc => h c (by simp [hc]))]; rfl
theorem digit_letter (c : UInt8) (h : isDigit c = true) : isLetter c = false := by
  unfold isDigit at h; unfold isLetter; simp at h ⊢; omega
theorem digit_gap (c : UInt8) (l : List UInt8) (h : isDigit c = true) : gapLen false (c :: l) = 0 := by
  unfold isDigit at h; simp at h
  exact gapLen_other c l (by omega) (by omega) (by omega) (by omega)
theorem dec_tok (n : Nat) (h : n < 1000000000000) : tokOf (dec 11 n) = .ok (2, (dec 11 n).length, n) := by
  have hd := dec_digits 11 n (by omega)
  have hv := dec_val 11 n (by omega)
  have hl := dec_len 11 n
  have hn := numLen_all _ hd
  have hne := dec_ne 11 n
  generalize dec 11 n = l at *
  cases l with
  | nil => exact absurd rfl hne
  | cons a l =>
    have ha := hd a (by simp)
    simp only [tokOf, hn]
    rw [if_neg (by rw [digit_letter a ha]; simp), if_pos ha, if_neg (by rw [List.drop_length]; simp [wordAt]; simpa using hl), List.take_length, hv]

/-- A part of a text: what the parser reads of it, and whether a blank follows. -/
structure Piece where
  k : Nat
  x : Bytes
  v : Nat
  sp : Bool
def Piece.all (p : Piece) : Bytes := p.x ++ (if p.sp then [32] else [])
def ptext (ps : List Piece) : Bytes := ps.flatMap Piece.all
/-- A word or number that stands for itself. -/
def Solid (p : Piece) : Prop := tokOf p.x = .ok (p.k, p.x.length, p.v) ∧ ∀ r, gapLen false (p.x ++ r) = 0
def Sym (p : Piece) : Prop := p.k = 3 ∧ p.v = 0 ∧ (p.x = [59] ∨ p.x = [45] ∨ p.x = [58])
def endsHead : Bytes → Prop
  | [] => True
  | c :: _ => ends c
def PF : List Piece → Prop
  | [] => True
  | p :: ps => (Sym p ∨ (Solid p ∧ (p.sp = true ∨ endsHead (ptext ps)))) ∧ PF ps
theorem Sym.tok {p : Piece} (h : Sym p) (r : Bytes) : tokOf (p.x ++ r) = .ok (p.k, p.x.length, p.v) ∧ gapLen false (p.x ++ r) = 0 := by
  obtain ⟨h1, h2, h3⟩ := h
  rw [h1, h2]
  rcases h3 with h3 | h3 | h3 <;> rw [h3]
  · exact ⟨by rfl, gapLen_other _ _ (by decide) (by decide) (by decide) (by decide)⟩
  · exact ⟨by rfl, gapLen_other _ _ (by decide) (by decide) (by decide) (by decide)⟩
  · exact ⟨by rfl, gapLen_other _ _ (by decide) (by decide) (by decide) (by decide)⟩
theorem pieces_toks : ∀ (ps : List Piece), PF ps → ∀ q, ∃ ts, Toks ts (ptext ps) q ∧ ts.map key = ps.map fun p => (p.k, p.x, p.v)
  | [], _, q => ⟨[], rfl, rfl⟩
  | p :: ps, ⟨h1, h2⟩, q => by
    have e : ptext (p :: ps) = p.x ++ ((if p.sp then [32] else []) ++ ptext ps) := by simp [ptext, Piece.all]
    obtain ⟨r, hr⟩ : ∃ r, (if p.sp then [32] else []) ++ ptext ps = r := ⟨_, rfl⟩
    rw [hr] at e
    have ht : tokOf (p.x ++ r) = .ok (p.k, p.x.length, p.v) ∧ gapLen false (p.x ++ r) = 0 := by
      rcases h1 with h1 | ⟨⟨h1, h3⟩, h4⟩
      · exact h1.tok r
      · refine ⟨?_, h3 r⟩
        have hne : p.x ≠ [] := by intro h0; rw [h0] at h1; simp [tokOf] at h1
        cases r with
        | nil => rw [List.append_nil]; exact h1
        | cons c r =>
          have hc : ends c := by
            rcases h4 with h4 | h4
            · rw [h4] at hr
              simp only [if_true, List.cons_append, List.nil_append, List.cons.injEq] at hr
              rw [← hr.1]; exact ends32
            · cases hsp : p.sp with
              | true =>
                rw [hsp] at hr
                simp only [if_true, List.cons_append, List.nil_append, List.cons.injEq] at hr
                rw [← hr.1]; exact ends32
              | false =>
                rw [hsp] at hr
                simp only [Bool.false_eq_true, if_false, List.nil_append] at hr
                rw [hr] at h4
                exact h4
          rw [tokOf_app _ _ _ hc hne]; exact h1
    have hsk : skip (p.x ++ r) = p.x ++ r := by unfold skip; rw [ht.2, List.drop_zero]
    have hT : ∃ ts, Toks ts r (q + p.x.length) ∧ ts.map key = ps.map fun p => (p.k, p.x, p.v) := by
      cases hsp : p.sp with
      | false =>
        rw [hsp] at hr
        simp only [Bool.false_eq_true, if_false, List.nil_append] at hr
        rw [← hr]
        exact pieces_toks ps h2 _
      | true =>
        rw [hsp] at hr
        simp only [if_true, List.cons_append, List.nil_append] at hr
        obtain ⟨ts, k1, k2⟩ := pieces_toks ps h2 (q + p.x.length + 1)
        refine ⟨ts, ?_, k2⟩
        rw [← hr]
        have hb : gapLen false (32 :: ptext ps) = gapLen false (ptext ps) + 1 := gapLen_blank _ _ (.inl rfl)
        refine toks_congr ?_ ?_ k1
        · unfold skip; rw [hb, List.drop_succ_cons]
        · rw [hb]; omega
    obtain ⟨ts, k1, k2⟩ := hT
    refine ⟨⟨p.k, p.x, p.v, q⟩ :: ts, ?_, by simp only [List.map_cons, k2]; rfl⟩
    rw [e]
    refine ⟨?_, ?_, ?_, ?_⟩
    · rw [hsk]; exact ht.1
    · rw [hsk, List.take_left]
    · rw [ht.2]; rfl
    · rw [hsk, List.drop_left]; exact k1

def wd (x : Bytes) : Piece := ⟨1, x, 0, true⟩
def we (x : Bytes) : Piece := ⟨1, x, 0, false⟩
def nu (x : Bytes) (v : Nat) (sp : Bool) : Piece := ⟨2, x, v, sp⟩
def sy (c : UInt8) (sp : Bool) : Piece := ⟨3, [c], 0, sp⟩
def namesTail (l2 : Bytes) (fin : Bool) : List Piece := if fin then [wd l2, we [102, 105, 110, 97, 108], sy 59 false] else [we l2, sy 59 false]
def namesPieces (l0 l1 l2 l3 l4 : Bytes) (n : Nat) (fin : Bool) : List Piece :=
  [wd [99, 111, 110, 116, 114, 97, 99, 116], wd l0, wd [102, 114, 111, 109], nu [49] 1 false, sy 45 false, nu [50] 2 false, sy 45 false, nu [51] 3 true, wd [102, 111, 114], nu (dec 11 n) n true, we [100, 97, 121, 115], sy 59 true,
   wd [112, 97, 114, 116, 121], we l1, sy 59 true, wd [114, 111, 108, 101], wd l2, wd [111, 102], we l1, sy 59 true, wd [97, 99, 116], wd l3, wd [98, 121], wd l2, wd [116, 111], we l1, sy 59 true,
   wd [100, 117, 116, 121], wd l4, wd [111, 102], wd l2, sy 58 true, wd l3, wd [119, 105, 116, 104, 105, 110], wd l0, wd [105, 102], wd l4, wd [115, 116, 97, 114, 116, 101, 100], wd [112, 97, 117, 115, 101, 100], wd [98, 121], wd l3, wd [117, 110, 116, 105, 108], wd l0, wd [118, 97, 108, 117, 101], wd l1, wd [116, 111]] ++ namesTail l2 fin
def namesWant (l0 l1 l2 l3 l4 : Bytes) (fin : Bool) : List Item :=
  [⟨{ flat0 with kind := 1, name := l1 }, []⟩, ⟨{ flat0 with kind := 2, name := l2, of_ := l1 }, []⟩, ⟨{ flat0 with kind := 8, name := l3, of_ := nature l2, word := 1, to_ := l1 }, []⟩,
   ⟨{ flat0 with kind := 9, name := l4, of_ := l2, act := l3, times := 1, within := ⟨0, false, l0⟩, conds := [⟨l4, 1⟩], by_ := l3, til := l0, sum := l1, to_ := l2, fin := fin }, []⟩]
def tk (p : Piece) : Tok := ⟨p.k, p.x, p.v, 0⟩
theorem names_source (l0 l1 l2 l3 l4 : Bytes) (n : Nat) (fin : Bool) : source ⟨(namesPieces l0 l1 l2 l3 l4 n fin).map tk, 0, 0⟩ = (⟨l0, ⟨1, 2, 3⟩, n, namesWant l0 l1 l2 l3 l4 fin⟩, ⟨[], 4, 0⟩) := by
  cases fin <;> kernel_rfl

/-- A text that is one name. -/
def isName (x : Bytes) : Bool := match Lx.lex x with | .ok [t] => t.kind == 1 && t.text == x | _ => false
theorem tokOf_v {l : Bytes} {len v : Nat} (h : tokOf l = .ok (1, len, v)) : v = 0 := by
  cases l with
  | nil => simp [tokOf] at h
  | cons c l =>
    simp only [tokOf] at h
    split at h
    · split at h
      · cases h
      · injection h with h; simp only [Prod.mk.injEq] at h; exact h.2.2.symm
    · split at h
      · split at h
        · cases h
        · injection h with h; simp only [Prod.mk.injEq] at h; omega
      · split at h
        · injection h with h; simp only [Prod.mk.injEq] at h; omega
        · cases h
theorem name_solid {x : Bytes} (h : isName x = true) (sp : Bool) : Solid ⟨1, x, 0, sp⟩ := by
  unfold isName at h
  split at h
  · rename_i t hl
    simp only [Bool.and_eq_true, beq_iff_eq] at h
    obtain ⟨h1, h2⟩ := h
    obtain ⟨k1, k2, k3, k4⟩ := Lx.lex_toks hl
    rw [h1] at k1
    have hv := tokOf_v k1
    rw [hv, h2] at k1
    rw [h2] at k2
    have hln := tok_len k1
    have hsl := Lx.skip_length x
    have hgl := Lx.gapLen_le false x
    have hlx := congrArg List.length k2
    rw [List.length_take] at hlx
    have hg : gapLen false x = 0 := by omega
    have hsk : skip x = x := by unfold skip; rw [hg, List.drop_zero]
    rw [hsk] at k1
    refine ⟨k1, fun r => ?_⟩
    cases x with
    | nil => simp at hln
    | cons c z =>
      obtain ⟨c1, c2, c3, c4⟩ := Lx.skip_head false (c :: z) c z (by unfold skip at hsk; exact hsk)
      exact gapLen_other _ _ c1 c2 c3 c4
  · cases h
theorem lit_solid {k v : Nat} {c : UInt8} {x : Bytes} {sp : Bool} (h : tokOf (c :: x) = .ok (k, (c :: x).length, v)) (hc : c.toNat ≠ 32 ∧ c.toNat ≠ 9 ∧ c.toNat ≠ 10 ∧ c.toNat ≠ 35) : Solid ⟨k, c :: x, v, sp⟩ :=
  ⟨h, fun r => gapLen_other _ _ hc.1 hc.2.1 hc.2.2.1 hc.2.2.2⟩
theorem dec_solid (n : Nat) (h : n < 1000000000000) (sp : Bool) : Solid (nu (dec 11 n) n sp) := by
  refine ⟨dec_tok n h, fun r => ?_⟩
  have hd := dec_digits 11 n (by omega)
  have hne := dec_ne 11 n
  show gapLen false (dec 11 n ++ r) = 0
  generalize dec 11 n = l at *
  cases l with
  | nil => exact absurd rfl hne
  | cons a l => exact digit_gap a _ (hd a (by simp))
theorem e59 (sp : Bool) (ps : List Piece) : endsHead (ptext (sy 59 sp :: ps)) := ⟨by decide, by decide⟩
theorem e45 (sp : Bool) (ps : List Piece) : endsHead (ptext (sy 45 sp :: ps)) := ⟨by decide, by decide⟩
theorem names_fine {l0 l1 l2 l3 l4 : Bytes} (h0 : isName l0 = true) (h1 : isName l1 = true) (h2 : isName l2 = true) (h3 : isName l3 = true) (h4 : isName l4 = true) (n : Nat) (hn : n < 1000000000000) (fin : Bool) : PF (namesPieces l0 l1 l2 l3 l4 n fin) := by
  have g0 := fun sp => name_solid h0 sp
  have g1 := fun sp => name_solid h1 sp
  have g2 := fun sp => name_solid h2 sp
  have g3 := fun sp => name_solid h3 sp
  have g4 := fun sp => name_solid h4 sp
  have gn := fun sp => dec_solid n hn sp
  clear h0 h1 h2 h3 h4
  unfold namesPieces namesTail
  cases fin
  all_goals
    simp only [if_true, Bool.false_eq_true, if_false, List.cons_append, List.nil_append]
    repeat' first
      | exact trivial
      | (refine ⟨?_, ?_⟩; focus (first
          | exact .inl ⟨rfl, rfl, .inl rfl⟩
          | exact .inl ⟨rfl, rfl, .inr (.inl rfl)⟩
          | exact .inl ⟨rfl, rfl, .inr (.inr rfl)⟩
          | exact .inr ⟨g0 true, .inl rfl⟩
          | exact .inr ⟨g1 true, .inl rfl⟩
          | exact .inr ⟨g2 true, .inl rfl⟩
          | exact .inr ⟨g3 true, .inl rfl⟩
          | exact .inr ⟨g4 true, .inl rfl⟩
          | exact .inr ⟨gn true, .inl rfl⟩
          | exact .inr ⟨g1 false, .inr (e59 _ _)⟩
          | exact .inr ⟨g2 false, .inr (e59 _ _)⟩
          | exact .inr ⟨lit_solid (by rfl) (by decide), .inl rfl⟩
          | exact .inr ⟨lit_solid (by rfl) (by decide), .inr (e59 _ _)⟩
          | exact .inr ⟨lit_solid (by rfl) (by decide), .inr (e45 _ _)⟩))
theorem names_len (l0 l1 l2 l3 l4 : Bytes) (n : Nat) (fin : Bool) (h0 : l0.length ≤ 100) (h1 : l1.length ≤ 100) (h2 : l2.length ≤ 100) (h3 : l3.length ≤ 100) (h4 : l4.length ≤ 100) : (ptext (namesPieces l0 l1 l2 l3 l4 n fin)).length ≤ 5000 := by
  have hd := dec_len 11 n
  cases fin <;> simp [ptext, namesPieces, namesTail, Piece.all, wd, we, nu, sy] <;> omega
theorem names_parse {l0 l1 l2 l3 l4 : Bytes} (h0 : isName l0 = true) (h1 : isName l1 = true) (h2 : isName l2 = true) (h3 : isName l3 = true) (h4 : isName l4 = true) (k0 : l0.length ≤ 100) (k1 : l1.length ≤ 100) (k2 : l2.length ≤ 100) (k3 : l3.length ≤ 100) (k4 : l4.length ≤ 100) (n : Nat) (hn : n < 1000000) (fin : Bool) :
    ∃ src, parse (ptext (namesPieces l0 l1 l2 l3 l4 n fin)) = .ok src ∧ src.name = l0 ∧ src.frm = ⟨1, 2, 3⟩ ∧ src.days = n ∧ All2 (EqI false) (namesWant l0 l1 l2 l3 l4 fin) src.items := by
  obtain ⟨ts, hT, hk⟩ := pieces_toks _ (names_fine h0 h1 h2 h3 h4 n (by omega) fin) 0
  have hlen := names_len l0 l1 l2 l3 l4 n fin k0 k1 k2 k3 k4
  have hl := Lx.toks_lex hT (by omega) (by have := Lx.toks_len hT; omega)
  have hs := names_source l0 l1 l2 l3 l4 n fin
  have hk2 : ts.map key = ((namesPieces l0 l1 l2 l3 l4 n fin).map tk).map key := by rw [hk, List.map_map]; rfl
  have hsl := source_like _ ts hk2
  obtain ⟨X, hX⟩ : ∃ X, source ⟨ts, 0, 0⟩ = X := ⟨_, rfl⟩
  generalize source ⟨(namesPieces l0 l1 l2 l3 l4 n fin).map tk, 0, 0⟩ = Z at hs hsl
  rw [hX] at hsl
  subst hs
  obtain ⟨e1, e2⟩ := hsl
  refine ⟨X.1, ?_, e1.1, e1.2.1, e1.2.2.1, e1.2.2.2⟩
  have he : X.2.err = 0 := e2.2.2
  unfold parse
  rw [hl]
  simp only
  rw [hX, if_pos he]
end Go.Proofs.YtfaflipphkoiiaaDoor.Pr
