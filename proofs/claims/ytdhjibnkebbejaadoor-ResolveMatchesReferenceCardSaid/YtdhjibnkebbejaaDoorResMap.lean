/-
  Maps of names to indices, and of days, in memory: entries in the order in which they came.
-/
import Derived.Test.YtdhjibnkebbejaaDoorResView
import Derived.WideMake
namespace Go.Proofs.YtdhjibnkebbejaaDoor.Rs
open Go.RowKit Mem Vw Go.ChangeMaps
set_option linter.unusedVariables false

def entsFrom : Nat → List Bytes → List MapEntry
  | _, [] => []
  | k, x :: l => { key := sv x, val := nv k, born := k } :: entsFrom (k + 1) l
/-- The entries of a map of names. -/
def ents (l : List Bytes) : Array MapEntry := (entsFrom 0 l).toArray
theorem entsFrom_app : ∀ (k : Nat) (l : List Bytes) (x : Bytes), entsFrom k (l ++ [x]) = entsFrom k l ++ [{ key := sv x, val := nv (k + l.length : Nat), born := k + l.length }]
  | k, [], x => rfl
  | k, y :: l, x => by
    simp only [List.cons_append, entsFrom]
    rw [entsFrom_app (k + 1) l x]
    simp only [List.length_cons, List.cons.injEq, true_and]
    rw [show k + 1 + l.length = k + (l.length + 1) by omega]
theorem ents_app (l : List Bytes) (x : Bytes) : ents (l ++ [x]) = (ents l).push { key := sv x, val := nv (l.length : Nat), born := l.length } := by
  unfold ents
  rw [entsFrom_app]
  simp
theorem same_str (x y : Bytes) : Instr.sameNow .string (sv x) (sv y) = some (x == y) := by
  have h : ((⟨x.toArray⟩ : ByteArray) == ⟨y.toArray⟩) = (x == y) := by
    rw [Bool.eq_iff_iff, MapKept.bytes_beq, beq_iff_eq]
    constructor
    · intro h
      have := congrArg (fun b : ByteArray => b.data.toList) h
      simpa using this
    · intro h; rw [h]
  simp only [sv, Instr.sameNow, h]
theorem find_ents (x : Bytes) : ∀ (l : List Bytes) (k i : Nat), Instr.findNow .string (sv x) (entsFrom k l) i = match l.findIdx? (· == x) with | none => some none | some j => some (some (i + j, nv (k + j : Nat)))
  | [], k, i => rfl
  | y :: l, k, i => by
    have ih := find_ents x l (k + 1) (i + 1)
    simp only [entsFrom, Instr.findNow, same_str, List.findIdx?_cons]
    by_cases h : x = y
    · subst h; simp
    · have h1 : (x == y) = false := by simpa using h
      have h2 : (y == x) = false := by simpa using fun e => h e.symm
      rw [h1, h2]
      simp only [ih]
      cases l.findIdx? (· == x) with
      | none => rfl
      | some j =>
        simp only [Option.map_some, Bool.false_eq_true, if_false]
        congr 3
        · omega
        · congr 1; omega
theorem find_no {x : Bytes} {l : List Bytes} (h : l.findIdx? (· == x) = none) : Instr.findNow .string (sv x) (ents l).toList 0 = some none := by
  have := find_ents x l 0 0
  rw [h] at this
  exact this
theorem find_yes {x : Bytes} {l : List Bytes} {j : Nat} (h : l.findIdx? (· == x) = some j) : Instr.findNow .string (sv x) (ents l).toList 0 = some (some (j, nv (j : Nat))) := by
  have := find_ents x l 0 0
  rw [h] at this
  simp only [Nat.zero_add] at this
  exact this
theorem check_str (w : World) (x : Bytes) (e : Bool) : (Instr.checkKey e 10000 9 (sv x)).run Tryd.prog w = .ok () w := MapKept.run_checkKey (k := sv x) Tryd.underlying9 (by simp [MapKept.IsKey, sv]) e 9999
/-- A name is looked up. -/
theorem look_yes {w : World} {r clock : Nat} {l : List Bytes} {x : Bytes} {j : Nat} (hb : w.heap[r]? = some (.map (ents l) clock)) (hf : l.findIdx? (· == x) = some j) :
    (Instr.lookup 91 (.map (some r)) (sv x) true).run Tryd.prog w = .ok (.tuple #[nv (j : Nat), .bool true]) w := by
  simp [Instr.lookup, run_underlying Tryd.underlying91, MapKept.run_getObj_map hb, check_str, MapKept.run_findKey Tryd.underlying9 (find_yes hf), Result.andThen]
theorem look_no {w : World} {r clock : Nat} {l : List Bytes} {x : Bytes} (hb : w.heap[r]? = some (.map (ents l) clock)) (hf : l.findIdx? (· == x) = none) :
    (Instr.lookup 91 (.map (some r)) (sv x) true).run Tryd.prog w = .ok (.tuple #[nv 0, .bool false]) w := by
  have hz : (zeroValue 3).run Tryd.prog w = .ok (nv 0) w := by kernel_rfl
  simp [Instr.lookup, run_underlying Tryd.underlying91, MapKept.run_getObj_map hb, check_str, MapKept.run_findKey Tryd.underlying9 (find_no hf), hz, Result.andThen]
/-- A new name is put into the map. -/
theorem put_new {w : World} {r : Nat} {l : List Bytes} {x : Bytes} (hb : w.heap[r]? = some (.map (ents l) l.length)) (hf : l.findIdx? (· == x) = none) :
    (Instr.mapUpdate 91 (.map (some r)) (sv x) (nv (l.length : Nat))).run Tryd.prog w = .ok () (setBlock w r (.map (ents (l ++ [x])) (l ++ [x]).length)) := by
  rw [ents_app, List.length_append]
  simp [Instr.mapUpdate, run_underlying Tryd.underlying91, MapKept.run_getObj_map hb, check_str, MapKept.run_findKey Tryd.underlying9 (find_no hf), MapKept.run_setObj_map _ hb, Result.andThen, setBlock]
def hentsFrom : Nat → List Int → List MapEntry
  | _, [] => []
  | k, d :: l => { key := nv d, val := .bool true, born := k } :: hentsFrom (k + 1) l
/-- The entries of the map of holidays. -/
def hents (l : List Int) : Array MapEntry := (hentsFrom 0 l).toArray
theorem hentsFrom_app : ∀ (k : Nat) (l : List Int) (x : Int), hentsFrom k (l ++ [x]) = hentsFrom k l ++ [{ key := nv x, val := .bool true, born := k + l.length }]
  | k, [], x => rfl
  | k, y :: l, x => by
    simp only [List.cons_append, hentsFrom]
    rw [hentsFrom_app (k + 1) l x]
    simp only [List.length_cons, List.cons.injEq, true_and]
    rw [show k + 1 + l.length = k + (l.length + 1) by omega]
theorem hents_app (l : List Int) (x : Int) : hents (l ++ [x]) = (hents l).push { key := nv x, val := .bool true, born := l.length } := by
  unfold hents
  rw [hentsFrom_app]
  simp
theorem hents_size (l : List Int) : (hents l).size = l.length := by
  unfold hents
  rw [List.size_toArray]
  have : ∀ k, (hentsFrom k l).length = l.length := by induction l with
    | nil => intro k; rfl
    | cons a l ih => intro k; simp [hentsFrom, ih]
  exact this 0
theorem ents_size (l : List Bytes) : (ents l).size = l.length := by
  unfold ents
  rw [List.size_toArray]
  have : ∀ k, (entsFrom k l).length = l.length := by induction l with
    | nil => intro k; rfl
    | cons a l ih => intro k; simp [entsFrom, ih]
  exact this 0
theorem hents_at : ∀ (l : List Int) (k j : Nat) (d : Int), l[j]? = some d → (hentsFrom k l)[j]? = some { key := nv d, val := .bool true, born := k + j }
  | [], k, j, d, h => by simp at h
  | y :: l, k, 0, d, h => by simp at h; subst h; simp [hentsFrom]
  | y :: l, k, j + 1, d, h => by
    simp only [hentsFrom, List.getElem?_cons_succ] at h ⊢
    rw [hents_at l (k + 1) j d h, show k + 1 + j = k + (j + 1) by omega]
theorem same_int (x y : Int) : Instr.sameNow (.int .i64) (nv x) (nv y) = some (x == y) := by
  simp [nv, Instr.sameNow]
theorem find_hents (x : Int) : ∀ (l : List Int) (k i : Nat), Instr.findNow (.int .i64) (nv x) (hentsFrom k l) i = match l.findIdx? (· == x) with | none => some none | some j => some (some (i + j, .bool true))
  | [], k, i => rfl
  | y :: l, k, i => by
    have ih := find_hents x l (k + 1) (i + 1)
    simp only [hentsFrom, Instr.findNow, same_int, List.findIdx?_cons]
    by_cases h : x = y
    · subst h; simp
    · have h1 : (x == y) = false := by simpa using h
      have h2 : (y == x) = false := by simpa using fun e => h e.symm
      rw [h1, h2]
      simp only [ih]
      cases l.findIdx? (· == x) with
      | none => rfl
      | some j =>
        simp only [Option.map_some, Bool.false_eq_true, if_false]
        congr 3
        omega
theorem check_int (w : World) (x : Int) (e : Bool) : (Instr.checkKey e 10000 3 (nv x)).run Tryd.prog w = .ok () w := MapKept.run_checkKey (k := nv x) Tryd.underlying3 (by simp [MapKept.IsKey, nv]) e 9999
/-- A day is put into the map of holidays. -/
theorem put_day {w : World} {r : Nat} {l : List Int} (d : Int) (hb : w.heap[r]? = some (.map (hents l) l.length)) :
    ∃ w', (Instr.mapUpdate 90 (.map (some r)) (nv d) (.bool true)).run Tryd.prog w = .ok () w' ∧ w'.heap[r]? = some (.map (hents (hput l d)) (hput l d).length) ∧ Fr (fun k => k = r) w w' := by
  have hfr : ∀ o, (setBlock w r o).heap[r]? = some o ∧ Fr (fun k => k = r) w (setBlock w r o) := by
    intro o
    refine ⟨?_, rfl, rfl, rfl, by simp [setBlock], fun k hk hs => ?_⟩
    · have := lt_of_blk hb
      simp [setBlock, this]
    · simp only [setBlock]
      rw [Array.getElem?_setIfInBounds, if_neg (fun e => hs e.symm)]
  have hf := find_hents d l 0 0
  cases hi : l.findIdx? (· == d) with
  | none =>
    rw [hi] at hf
    have hc : l.contains d = false := by
      rw [List.findIdx?_eq_none_iff] at hi
      rw [Bool.eq_false_iff]
      intro h
      rw [List.contains_iff_mem] at h
      simpa using hi d h
    have e : hput l d = l ++ [d] := by unfold hput; rw [hc]; rfl
    rw [e, hents_app, List.length_append]
    refine ⟨setBlock w r (.map ((hents l).push { key := nv d, val := .bool true, born := l.length }) (l.length + 1)), ?_, (hfr _).1, (hfr _).2⟩
    simp [Instr.mapUpdate, run_underlying Tryd.underlying90, MapKept.run_getObj_map hb, check_int, MapKept.run_findKey Tryd.underlying3 (show Instr.findNow (.int .i64) (nv d) (hents l).toList 0 = some none from hf), MapKept.run_setObj_map _ hb, Result.andThen, setBlock]
  | some j =>
    rw [hi] at hf
    simp only [Nat.zero_add] at hf
    obtain ⟨hj, hd, _⟩ := List.findIdx?_eq_some_iff_getElem.1 hi
    have hd : l[j] = d := by simpa using hd
    have hc : l.contains d = true := by rw [List.contains_iff_mem, ← hd]; exact List.getElem_mem hj
    have e : hput l d = l := by unfold hput; rw [hc]; rfl
    rw [e]
    have he : (hents l)[j]? = some { key := nv d, val := .bool true, born := j } := by
      have := hents_at l 0 j d (by rw [List.getElem?_eq_getElem hj, hd])
      simpa [hents] using this
    have hm : ((hents l).modify j fun e => { key := nv d, val := .bool true, born := e.born }) = hents l := by
      apply Array.ext_getElem?
      intro q
      rw [Array.getElem?_modify]
      by_cases hq : j = q
      · subst hq
        rw [if_pos rfl, he]
        rfl
      · rw [if_neg hq]
    have hk : (Instr.keyThatStays (nv d) (nv d)).run Tryd.prog w = .ok (nv d) w := MapKept.run_keyThatStays (d := .int .i64) (by simp [MapKept.IsKey, nv])
    refine ⟨setBlock w r (.map (hents l) l.length), ?_, (hfr _).1, (hfr _).2⟩
    simp [Instr.mapUpdate, run_underlying Tryd.underlying90, MapKept.run_getObj_map hb, check_int, MapKept.run_findKey Tryd.underlying3 (show Instr.findNow (.int .i64) (nv d) (hents l).toList 0 = some (some (j, .bool true)) from hf), he, hk, hm, MapKept.run_setObj_map _ hb, Result.andThen, setBlock]
end Go.Proofs.YtdhjibnkebbejaaDoor.Rs
