/-
  What the functions name, number, token and afterGaps of package lexer return, or the panic with which they end.
-/
import Derived.Test.YtfaflipphkoiiaaDoorLexWalkA
import Derived.Outline
namespace Go.Proofs.YtfaflipphkoiiaaDoor.Lx
open Go.RowKit

theorem enters_name1 (args : Array Value) (W : World) : (callFunc 99 args).run Tryd.prog W = .ok (.enter 99 args) W := by kernel_rfl
theorem enters_number1 (args : Array Value) (W : World) : (callFunc 101 args).run Tryd.prog W = .ok (.enter 101 args) W := by kernel_rfl
theorem enters_gaps1 (args : Array Value) (W : World) : (callFunc 81 args).run Tryd.prog W = .ok (.enter 81 args) W := by kernel_rfl

/-- The bytes of a text. -/
def bs (s : ByteArray) : List UInt8 := s.data.toList
theorem bs_length (s : ByteArray) : (bs s).length = s.size := by simp [bs]

theorem end_name (a : Addr) (s : ByteArray) (w : World) (k : Nat) (hs : s.size ≤ 9223372036854775807) (hk : k ≤ s.size) (hcell : w.cell? a = some (.string s)) :
    Calls Tryd.prog 80 #[.string s, .int .i64 (k : Int), .func (.func 99) #[] #[.pointer (some a)]] w fun e w' => e = .returned (.int .i64 ((k + nameLen ((bs s).drop k) : Nat) : Int)) ∧ w = w' := by
  have hl := nameLen_le ((bs s).drop k)
  rw [List.length_drop, bs_length] at hl
  refine end_any 99 (fun i => nameByte ((bs s).drop i)) a s w k _ hs (by omega) (by omega) ?_ ?_ enters_name1 (fun i hi => name1_any i a s w hs hi hcell)
  · intro j h1 h2
    have := nameLen_yes ((bs s).drop k) (j - k) (by omega)
    rw [List.drop_drop] at this
    rwa [show k + (j - k) = j by omega] at this
  · intro h
    have := nameLen_no ((bs s).drop k) (by rw [List.length_drop, bs_length]; omega)
    rwa [List.drop_drop] at this

theorem end_number (a : Addr) (s : ByteArray) (w : World) (k : Nat) (hs : s.size ≤ 9223372036854775807) (hk : k ≤ s.size) (hcell : w.cell? a = some (.string s)) :
    Calls Tryd.prog 80 #[.string s, .int .i64 (k : Int), .func (.func 101) #[] #[.pointer (some a)]] w fun e w' => e = .returned (.int .i64 ((k + numLen ((bs s).drop k) : Nat) : Int)) ∧ w = w' := by
  have hl := numLen_le ((bs s).drop k)
  rw [List.length_drop, bs_length] at hl
  refine end_any 101 (fun i => if h : i < s.size then isDigit s[i] else false) a s w k _ hs (by omega) (by omega) ?_ ?_ enters_number1 (fun i hi => by simpa only [dif_pos hi] using number1_any i a s w hi hcell)
  · intro j h1 h2
    have hj : j < s.size := by omega
    have hb := bs_length s
    have := numLen_yes ((bs s).drop k) (j - k) (by rw [List.length_drop]; omega) (by omega)
    simp only [List.getElem_drop, show k + (j - k) = j by omega] at this
    simp only [dif_pos hj]
    exact this
  · intro h
    have := numLen_no ((bs s).drop k) (by rw [List.length_drop, bs_length]; omega)
    simp only [List.getElem_drop] at this
    simp only [dif_pos h]
    exact this

theorem end_gaps (a : Addr) (s : ByteArray) (w : World) (k : Nat) (hs : s.size ≤ 9223372036854775807) (hk : k ≤ s.size) (hcell : w.cell? a = some (.string s)) :
    Calls Tryd.prog 80 #[.string s, .int .i64 (k : Int), .func (.func 81) #[] #[.pointer (some a)]] w fun e w' => e = .returned (.int .i64 ((k + comLen ((bs s).drop k) : Nat) : Int)) ∧ w = w' := by
  have hl := comLen_le ((bs s).drop k)
  rw [List.length_drop, bs_length] at hl
  refine end_any 81 (fun i => if h : i < s.size then s[i].toNat != 10 else false) a s w k _ hs (by omega) (by omega) ?_ ?_ enters_gaps1 (fun i hi => by simpa only [dif_pos hi] using gaps1_any i a s w hi hcell)
  · intro j h1 h2
    have hj : j < s.size := by omega
    have hb := bs_length s
    have := comLen_yes ((bs s).drop k) (j - k) (by rw [List.length_drop]; omega) (by omega)
    simp only [List.getElem_drop, show k + (j - k) = j by omega] at this
    simp only [dif_pos hj]
    exact bne_iff_ne.2 this
  · intro h
    have := comLen_no ((bs s).drop k) (by rw [List.length_drop, bs_length]; omega)
    simp only [List.getElem_drop] at this
    simp only [dif_pos h]
    rw [bne_eq_false_iff_eq]; exact this

theorem sl_str (s : ByteArray) (i j : Nat) (h : i ≤ j) (h2 : j ≤ s.size) (W : World) :
    (Instr.slice 9 (.string s) (some (.int .i64 (i : Int))) (some (.int .i64 (j : Int))) none).run Tryd.prog W = .ok (.string (s.extract i j)) W := by
  have := run_slice_string (P := Tryd.prog) W 9 s .i64 .i64 (i : Int) (j : Int) Tryd.underlying9 (by omega) (by omega) (by omega)
  simpa using this
theorem sl_str_add (s : ByteArray) (i n : Nat) (h2 : i + n ≤ s.size) (W : World) :
    (Instr.slice 9 (.string s) (some (.int .i64 (i : Int))) (some (.int .i64 ((i : Int) + (n : Int)))) none).run Tryd.prog W = .ok (.string (s.extract i (i + n))) W := by
  have := sl_str s i (i + n) (by omega) h2 W
  rwa [Int.natCast_add] at this
theorem sl_str_one (s : ByteArray) (i : Nat) (h2 : i + 1 ≤ s.size) (W : World) :
    (Instr.slice 9 (.string s) (some (.int .i64 (i : Int))) (some (.int .i64 ((i : Int) + 1))) none).run Tryd.prog W = .ok (.string (s.extract i (i + 1))) W := by
  have := sl_str s i (i + 1) (by omega) h2 W
  rwa [Int.natCast_add] at this

set_option maxHeartbeats 400000 in
theorem name_ok (s : ByteArray) (k n : Nat) (w : World) (hs : s.size ≤ 9223372036854775807) (hk : k ≤ s.size) (hn : nameLen ((bs s).drop k) = n) (h24 : n ≤ 24) :
    Calls Tryd.prog 83 #[.string s, .int .i64 (k : Int)] w fun e w' =>
      e = .returned (.agg #[.int .i64 1, .string (s.extract k (k + n)), .int .i64 0, .int .i64 k]) ∧ Below w.heap.size w w' := by
  have hl := nameLen_le ((bs s).drop k)
  rw [List.length_drop, bs_length, hn] at hl
  have Hn := Lib.hid hn; clear hn
  have hmf := mkFunc
  have hsl := sl_str_add s k n (by omega)
  go_enter Tryd.func83, Tryd.ntmps83
  go_wp2_with fail
  refine (end_name _ s _ k hs hk (by simp)).mono ?_
  rintro e w' ⟨rfl, rfl⟩
  rw [Hn.out]
  go_wp2_with fail
  go_returns
  exact ⟨rfl, by go_grown⟩

/-- The value with which a scan panics. -/
def fail_ (e : Int) (k : Nat) : List PanicEntry := [{ v := .iface 78 (.agg #[.int .i64 e, .int .i64 k]), recovered := false }]

set_option maxHeartbeats 400000 in
theorem name_no (s : ByteArray) (k n : Nat) (w : World) (hs : s.size ≤ 9223372036854775807) (hk : k ≤ s.size) (hn : nameLen ((bs s).drop k) = n) (h24 : 24 < n) :
    Calls Tryd.prog 83 #[.string s, .int .i64 (k : Int)] w fun e w' =>
      e = .panicked (fail_ 3 k) ∧ Below w.heap.size w w' := by
  have hl := nameLen_le ((bs s).drop k)
  rw [List.length_drop, bs_length, hn] at hl
  have Hn := Lib.hid hn; clear hn
  have hmf := mkFunc
  go_enter Tryd.func83, Tryd.ntmps83
  go_wp2_with fail
  refine (end_name _ s _ k hs hk (by simp)).mono ?_
  rintro e w' ⟨rfl, rfl⟩
  rw [Hn.out]
  go_wp2_with fail
  exact ⟨rfl, rfl, by go_grown⟩
end Go.Proofs.YtfaflipphkoiiaaDoor.Lx
