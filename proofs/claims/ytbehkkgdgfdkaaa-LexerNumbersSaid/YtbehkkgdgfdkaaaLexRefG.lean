/-
  Slices of slices of tokens; texts appended.
-/
import Derived.Test.YtbehkkgdgfdkaaaLexRefF
import Derived.Test.YtbehkkgdgfdkaaaLexLaws
namespace Go.Proofs.Ytbehkkgdgfdkaaa.Lx
open Go.RowKit
set_option linter.unusedVariables false

theorem elemTok : Try.prog.underlying 23 = some (.slice (Try.prog.elem 23)) := by kernel_rfl
theorem elemTok_is : Try.prog.elem 23 = 30 := by kernel_rfl

theorem sl_head (A : Option Addr) (n cap k : Nat) (h : k ≤ cap) (W : World) :
    (Instr.slice 23 (.slice A n cap) none (some (.int .i64 (k : Int))) none).run Try.prog W = .ok (.slice A k cap) W := by
  have := run_slice_h (P := Try.prog) W 23 A n cap elemTok .i64 (k : Int) (by omega) (by omega)
  rw [this, elemTok_is, Try.sizeOf30]
  cases A <;> simp [sliced, Result.andThen, Addr.add]
theorem sl_tail (A : Option Addr) (n cap k : Nat) (h : k ≤ n) (hc : n ≤ cap) : ∃ A', (∀ W, (Instr.slice 23 (.slice A n cap) (some (.int .i64 (k : Int))) none none).run Try.prog W = .ok (.slice A' (n - k) (cap - k)) W) ∧
    ∀ (w : World) (ts : List Tok), ts.length = n → TokRow w A ts → TokRow w A' (ts.drop k) := by
  refine ⟨if cap = k then A else A.map (·.add (k * 4)), fun W => ?_, fun w ts hn ht hpos => ?_⟩
  · have := run_slice_l (P := Try.prog) W 23 A n cap elemTok .i64 (k : Int) (by omega) (by omega)
    rw [this, elemTok_is, Try.sizeOf30]
    simp [sliced, Result.andThen]
  · rw [List.length_drop] at hpos
    obtain ⟨g, o, rfl, hg, hcell⟩ := ht (by omega)
    rw [if_neg (by omega)]
    have e : (⟨g, o, none⟩ : Addr).add (k * 4) = ⟨g, o + k * 4, none⟩ := by unfold Addr.add; split <;> simp_all
    refine ⟨g, o + k * 4, by simp only [Option.map_some, e], hg, fun i hi => ?_⟩
    rw [List.length_drop] at hi
    have := hcell (k + i) (by omega)
    rw [List.getElem_drop, show o + k * 4 + i * 4 = o + (k + i) * 4 by omega]
    exact this
theorem TokRow.take {w : World} {A : Option Addr} {ts : List Tok} (k : Nat) (h : TokRow w A ts) : TokRow w A (ts.take k) := by
  intro hpos
  rw [List.length_take] at hpos
  obtain ⟨g, o, rfl, hg, hcell⟩ := h (by omega)
  refine ⟨g, o, rfl, hg, fun i hi => ?_⟩
  rw [List.length_take] at hi
  have := hcell i (by omega)
  rw [List.getElem_take]
  exact this
theorem own_cap {w : World} {base : Nat} {e : TypeId} {size n cap : Nat} {A : Option Addr} {xs : List Value} (h : w.ownsRow base e size (.slice A n cap) n xs) : n ≤ cap := by
  rcases h.2 with ⟨h1, h2⟩ | ⟨g, cap', cur, hv, _, _, hn, _⟩
  · omega
  · injection hv with _ _ hc; omega
theorem bs_append (a b : ByteArray) : bs (a ++ b) = bs a ++ bs b := by simp [bs, ByteArray.data_append]
theorem bs_lit (l : List UInt8) : bs ⟨l.toArray⟩ = l := by simp [bs]
theorem moved_eq (d : Nat) : moved d = shift d := rfl
theorem lf_mid (a b : ByteArray) : bs (a ++ ⟨#[10]⟩ ++ b) = bs a ++ 10 :: bs b := by
  rw [bs_append, bs_append]; show _ ++ [10] ++ _ = _; simp
theorem toks_pos {ts : List Tok} {l : List UInt8} {p : Nat} (h : Toks ts l p) : ∀ t ∈ ts, p ≤ t.pos ∧ t.pos + t.text.length ≤ p + l.length := by
  induction ts generalizing l p with
  | nil => simp
  | cons t ts ih =>
    obtain ⟨h1, h2, h3, h4⟩ := h
    have hl := tok_len h1
    have hs := skip_length l
    intro x hx
    rcases List.mem_cons.1 hx with rfl | hx
    · omega
    · have := ih h4 x hx
      rw [List.length_drop] at this
      omega
end Go.Proofs.Ytbehkkgdgfdkaaa.Lx
