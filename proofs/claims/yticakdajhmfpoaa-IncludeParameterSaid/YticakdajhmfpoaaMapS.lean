/-
  Maps with names as keys, and with whole numbers as keys, in memory: what a key leads to, as a function.
-/
import Derived.WalkKit
import Derived.WideMake
import Derived.MapKept
namespace Go.Proofs.Yticakdajhmfpoaa.Mp
open Go.RowKit Go.ChangeMaps
set_option linter.unusedVariables false
abbrev Bytes := List UInt8
def ky (x : Bytes) : Value := .string ⟨x.toArray⟩
def look (x : Bytes) : List (Bytes × Value) → Option Value
  | [] => none
  | p :: l => if x = p.1 then some p.2 else look x l
def put (x : Bytes) (v : Value) : List (Bytes × Value) → List (Bytes × Value)
  | [] => [(x, v)]
  | p :: l => if x = p.1 then (x, v) :: l else p :: put x v l
def del (x : Bytes) : List (Bytes × Value) → List (Bytes × Value)
  | [] => []
  | p :: l => if x = p.1 then l else p :: del x l
theorem look_put (x : Bytes) (v : Value) (y : Bytes) : ∀ l, look y (put x v l) = if y = x then some v else look y l
  | [] => by simp [put, look]
  | p :: l => by
    have ih := look_put x v y l
    by_cases h : x = p.1
    · simp only [put, if_pos h, look]
      by_cases h2 : y = x
      · rw [if_pos h2, if_pos h2]
      · rw [if_neg h2, if_neg h2, if_neg (by rw [← h]; exact h2)]
    · simp only [put, if_neg h, look, ih]
      by_cases h2 : y = p.1
      · rw [if_pos h2, if_pos h2, if_neg (fun e => h (by rw [← e, h2]))]
      · rw [if_neg h2, if_neg h2]
theorem keys_put (x : Bytes) (v : Value) : ∀ l : List (Bytes × Value), ∀ y, y ∈ (put x v l).map (·.1) → y = x ∨ y ∈ l.map (·.1)
  | [], y, h => by simp [put] at h; exact .inl h
  | p :: l, y, h => by
    unfold put at h
    split at h
    · next e =>
      simp only [List.map_cons, List.mem_cons] at h ⊢
      rcases h with h | h
      · exact .inl h
      · exact .inr (.inr h)
    · simp only [List.map_cons, List.mem_cons] at h ⊢
      rcases h with h | h
      · exact .inr (.inl h)
      · rcases keys_put x v l y h with h | h
        · exact .inl h
        · exact .inr (.inr h)
theorem nodup_put (x : Bytes) (v : Value) : ∀ l : List (Bytes × Value), (l.map (·.1)).Nodup → ((put x v l).map (·.1)).Nodup
  | [], h => by simp [put]
  | p :: l, h => by
    simp only [List.map_cons, List.nodup_cons] at h
    unfold put
    split
    · next e => simp only [List.map_cons, List.nodup_cons]; exact ⟨by rw [e]; exact h.1, h.2⟩
    · next e =>
      simp only [List.map_cons, List.nodup_cons]
      refine ⟨fun hm => ?_, nodup_put x v l h.2⟩
      rcases keys_put x v l _ hm with h1 | h1
      · exact e h1.symm
      · exact h.1 h1
theorem look_none {x : Bytes} : ∀ {l : List (Bytes × Value)}, x ∉ l.map (·.1) → look x l = none
  | [], _ => rfl
  | p :: l, h => by
    simp only [List.map_cons, List.mem_cons, not_or] at h
    unfold look
    rw [if_neg h.1]
    exact look_none h.2
theorem mem_del {x y : Bytes} : ∀ {l : List (Bytes × Value)}, y ∈ (del x l).map (·.1) → y ∈ l.map (·.1)
  | [], h => h
  | p :: l, h => by
    unfold del at h
    split at h
    · simp only [List.map_cons, List.mem_cons]; exact .inr h
    · simp only [List.map_cons, List.mem_cons] at h ⊢
      exact h.imp id (mem_del)
theorem nodup_del (x : Bytes) : ∀ l : List (Bytes × Value), (l.map (·.1)).Nodup → ((del x l).map (·.1)).Nodup
  | [], h => h
  | p :: l, h => by
    simp only [List.map_cons, List.nodup_cons] at h
    unfold del
    split
    · exact h.2
    · simp only [List.map_cons, List.nodup_cons]
      exact ⟨fun hm => h.1 (mem_del hm), nodup_del x l h.2⟩
theorem look_del (x y : Bytes) : ∀ l : List (Bytes × Value), (l.map (·.1)).Nodup → look y (del x l) = if y = x then none else look y l
  | [], _ => by simp [del, look]
  | p :: l, h => by
    simp only [List.map_cons, List.nodup_cons] at h
    have ih := look_del x y l h.2
    unfold del
    split
    · next e =>
      by_cases h2 : y = x
      · rw [if_pos h2]; exact look_none (by rw [h2, e]; exact h.1)
      · rw [if_neg h2, look, if_neg (by rw [← e]; exact h2)]
    · next e =>
      simp only [look, ih]
      by_cases h2 : y = p.1
      · rw [if_pos h2, if_pos h2, if_neg (fun h3 => e (by rw [← h3, h2]))]
      · rw [if_neg h2, if_neg h2]
/-- A block is a map of names with these entries. -/
def Ents (es : Array MapEntry) (l : List (Bytes × Value)) : Prop := es.toList.map (fun e => (e.key, e.val)) = l.map fun p => (ky p.1, p.2)
/-- A block is a map of names; what a name leads to is f. -/
def MapF (w : World) (r : Nat) (f : Bytes → Option Value) : Prop :=
  ∃ es clock l, w.heap[r]? = some (.map es clock) ∧ Ents es l ∧ (l.map (·.1)).Nodup ∧ f = fun x => look x l
theorem same_ky (x y : Bytes) : Instr.sameNow .string (ky x) (ky y) = some (x == y) := by
  have h : ((⟨x.toArray⟩ : ByteArray) == ⟨y.toArray⟩) = (x == y) := by
    rw [Bool.eq_iff_iff, MapKept.bytes_beq, beq_iff_eq]
    constructor
    · intro h
      have := congrArg (fun b : ByteArray => b.data.toList) h
      simpa using this
    · intro h; rw [h]
  simp only [ky, Instr.sameNow, h]
theorem find_at (x : Bytes) : ∀ (es : List MapEntry) (l : List (Bytes × Value)) (i : Nat), es.map (fun e => (e.key, e.val)) = l.map (fun p => (ky p.1, p.2)) →
    (Instr.findNow .string (ky x) es i = some none ∧ look x l = none) ∨
      ∃ a p b a' e b', l = a ++ p :: b ∧ es = a' ++ e :: b' ∧ a.length = a'.length ∧ x = p.1 ∧ e.key = ky x ∧ e.val = p.2 ∧ x ∉ a.map (·.1) ∧ Instr.findNow .string (ky x) es i = some (some (i + a'.length, p.2)) ∧ look x l = some p.2
  | [], [], i, h => .inl ⟨rfl, rfl⟩
  | [], p :: l, i, h => by simp at h
  | e :: es, [], i, h => by simp at h
  | e :: es, p :: l, i, h => by
    simp only [List.map_cons, List.cons.injEq, Prod.mk.injEq] at h
    obtain ⟨⟨h1, h2⟩, h3⟩ := h
    by_cases hx : x = p.1
    · refine .inr ⟨[], p, l, [], e, es, rfl, rfl, rfl, hx, by rw [h1, hx], h2, by simp, ?_, ?_⟩
      · unfold Instr.findNow
        rw [h1, same_ky]
        simp [hx, h2]
      · unfold look; rw [if_pos hx]
    · have hb : (x == p.1) = false := by simpa using hx
      rcases find_at x es l (i + 1) h3 with ⟨g1, g2⟩ | ⟨a, q, b, a', e', b', g1, g2, g3, g4, g5, g6, g7, g8, g9⟩
      · refine .inl ⟨?_, ?_⟩
        · unfold Instr.findNow; rw [h1, same_ky, hb]; exact g1
        · unfold look; rw [if_neg hx]; exact g2
      · refine .inr ⟨p :: a, q, b, e :: a', e', b', by rw [g1]; rfl, by rw [g2]; rfl, by simp [g3], g4, g5, g6, by simp only [List.map_cons, List.mem_cons, not_or]; exact ⟨hx, g7⟩, ?_, ?_⟩
        · unfold Instr.findNow; rw [h1, same_ky, hb]; simp only [g8, List.length_cons]; congr 3; omega
        · unfold look; rw [if_neg hx]; exact g9
theorem check_ky {P : Program} {k : TypeId} (hk : P.underlying k = some .string) (w : World) (x : Bytes) (e : Bool) : (Instr.checkKey e 10000 k (ky x)).run P w = .ok () w := MapKept.run_checkKey (k := ky x) hk (by simp [MapKept.IsKey, ky]) e 9999
theorem put_app (x : Bytes) (v : Value) : ∀ (a : List (Bytes × Value)) (p : Bytes × Value) (b), x = p.1 → x ∉ a.map (·.1) → put x v (a ++ p :: b) = a ++ (x, v) :: b
  | [], p, b, h, _ => by simp [put, h]
  | q :: a, p, b, h, hn => by
    simp only [List.map_cons, List.mem_cons, not_or] at hn
    simp only [List.cons_append, put, if_neg hn.1]
    rw [put_app x v a p b h hn.2]
theorem del_app (x : Bytes) : ∀ (a : List (Bytes × Value)) (p : Bytes × Value) (b), x = p.1 → x ∉ a.map (·.1) → del x (a ++ p :: b) = a ++ b
  | [], p, b, h, _ => by simp [del, h]
  | q :: a, p, b, h, hn => by
    simp only [List.map_cons, List.mem_cons, not_or] at hn
    simp only [List.cons_append, del, if_neg hn.1]
    rw [del_app x a p b h hn.2]
theorem put_end (x : Bytes) (v : Value) : ∀ l : List (Bytes × Value), look x l = none → put x v l = l ++ [(x, v)]
  | [], _ => rfl
  | q :: l, h => by
    unfold look at h
    split at h
    · cases h
    · next e => simp only [put, if_neg e, List.cons_append]; rw [put_end x v l h]
theorem del_no (x : Bytes) : ∀ l : List (Bytes × Value), look x l = none → del x l = l
  | [], _ => rfl
  | q :: l, h => by
    unfold look at h
    split at h
    · cases h
    · next e => simp only [del, if_neg e]; rw [del_no x l h]
theorem mod_app (x : Bytes) (v : Value) (k : Value) : ∀ (a : List MapEntry) (e : MapEntry) (b : List MapEntry), (a ++ e :: b).modify a.length (fun e => { e with key := k, val := v }) = a ++ { e with key := k, val := v } :: b
  | [], e, b => rfl
  | q :: a, e, b => by
    show (q :: (a ++ e :: b)).modify (a.length + 1) _ = _
    rw [List.modify_succ_cons, mod_app x v k a e b]
    rfl
section
variable {P : Program} {T K E : TypeId} {w : World} {r : Nat} {f : Bytes → Option Value}
theorem MapF.of_heap {w' : World} (h : MapF w r f) (hb : w'.heap[r]? = w.heap[r]?) : MapF w' r f := by
  obtain ⟨es, clock, l, h1, h2⟩ := h
  exact ⟨es, clock, l, hb.trans h1, h2⟩
theorem MapF.lt (h : MapF w r f) : r < w.heap.size := by
  obtain ⟨es, clock, l, h1, _⟩ := h
  exact (Array.getElem?_eq_some_iff.1 h1).1
theorem MapF.made (w : World) : MapF (w.alloc (.map #[] 0)) w.heap.size (fun _ => none) := ⟨#[], 0, [], (MapKept.heap_alloc w _).1, rfl, List.nodup_nil, rfl⟩
/-- 'v, ok := m[k]'. -/
theorem MapF.ok {z : Value} (hm : P.underlying T = some (.map K E)) (hk : P.underlying K = some .string) (h : MapF w r f) (x : Bytes) (hz : (zeroValue E).run P w = .ok z w) :
    (Instr.lookup T (.map (some r)) (ky x) true).run P w = .ok (.tuple #[(f x).getD z, .bool (f x).isSome]) w := by
  obtain ⟨es, clock, l, hb, he, _, rfl⟩ := h
  rcases find_at x es.toList l 0 he with ⟨g1, g2⟩ | ⟨a, q, b, a', e', b', _, _, _, _, _, _, _, g8, g9⟩
  · simp [Instr.lookup, run_underlying hm, MapKept.run_getObj_map hb, check_ky hk, MapKept.run_findKey hk g1, hz, Result.andThen, g2]
  · simp [Instr.lookup, run_underlying hm, MapKept.run_getObj_map hb, check_ky hk, MapKept.run_findKey hk g8, Result.andThen, g9]
/-- 'm[k]'. -/
theorem MapF.get {z : Value} (hm : P.underlying T = some (.map K E)) (hk : P.underlying K = some .string) (h : MapF w r f) (x : Bytes) (hz : (zeroValue E).run P w = .ok z w) :
    (Instr.lookup T (.map (some r)) (ky x) false).run P w = .ok ((f x).getD z) w := by
  obtain ⟨es, clock, l, hb, he, _, rfl⟩ := h
  rcases find_at x es.toList l 0 he with ⟨g1, g2⟩ | ⟨a, q, b, a', e', b', _, _, _, _, _, _, _, g8, g9⟩
  · simp [Instr.lookup, run_underlying hm, MapKept.run_getObj_map hb, check_ky hk, MapKept.run_findKey hk g1, hz, Result.andThen, g2]
  · simp [Instr.lookup, run_underlying hm, MapKept.run_getObj_map hb, check_ky hk, MapKept.run_findKey hk g8, Result.andThen, g9]
theorem bits_ky (x : Bytes) : Instr.sameBits 10000 (ky x) (ky x) = true := by
  show Instr.sameBits (9999 + 1) _ _ = true
  simp only [ky, Instr.sameBits]
  exact (MapKept.bytes_beq _ _).2 rfl
/-- 'm[k] = v'. -/
theorem MapF.set (hm : P.underlying T = some (.map K E)) (hk : P.underlying K = some .string) (h : MapF w r f) (x : Bytes) (v : Value) :
    ∃ o, (Instr.mapUpdate T (.map (some r)) (ky x) v).run P w = .ok () (setBlock w r o) ∧ MapF (setBlock w r o) r (fun y => if y = x then some v else f y) := by
  obtain ⟨es, clock, l, hb, he, hn, rfl⟩ := h
  have hlt : r < w.heap.size := (Array.getElem?_eq_some_iff.1 hb).1
  rcases find_at x es.toList l 0 he with ⟨g1, g2⟩ | ⟨a, q, b, a', e', b', g1, g2, g3, g4, g5, g6, g7, g8, g9⟩
  · refine ⟨.map (es.push { key := ky x, val := v, born := clock }) (clock + 1), ?_, es.push { key := ky x, val := v, born := clock }, clock + 1, put x v l, ?_, ?_, nodup_put x v l hn, ?_⟩
    · simp [Instr.mapUpdate, run_underlying hm, MapKept.run_getObj_map hb, check_ky hk, MapKept.run_findKey hk g1, MapKept.run_setObj_map _ hb, Result.andThen, setBlock]
    · simp [setBlock, hlt]
    · unfold Ents at he ⊢
      rw [put_end x v l g2, Array.toList_push, List.map_append, he, List.map_append]
      rfl
    · funext y; rw [look_put]
  · refine ⟨.map (es.modify a'.length fun e => { e with key := ky x, val := v }) clock, ?_, es.modify a'.length fun e => { e with key := ky x, val := v }, clock, put x v l, ?_, ?_, nodup_put x v l hn, ?_⟩
    · have hi : es[a'.length]? = some e' := by
        rw [← Array.getElem?_toList, g2]; simp
      rw [Nat.zero_add] at g8
      simp [Instr.mapUpdate, run_underlying hm, MapKept.run_getObj_map hb, check_ky hk, MapKept.run_findKey hk g8, MapKept.run_setObj_map _ hb, Result.andThen, setBlock, hi, g5, Instr.keyThatStays, bits_ky]
    · simp [setBlock, hlt]
    · unfold Ents at he ⊢
      rw [Array.toList_modify, g2, mod_app x v (ky x), g1, put_app x v a q b g4 g7]
      rw [g1, g2] at he
      simp only [List.map_append, List.map_cons] at he ⊢
      have hl : (a'.map fun e => (e.key, e.val)).length = (a.map fun p => (ky p.1, p.2)).length := by simp [g3]
      obtain ⟨h1, h2⟩ := List.append_inj he hl
      rw [h1]
      congr 1
      simp only [List.cons.injEq] at h2 ⊢
      exact ⟨trivial, h2.2⟩
    · funext y; rw [look_put]
/-- 'delete(m, k)'. -/
theorem MapF.del {ty : TypeId} (hm : P.underlying T = some (.map K E)) (hk : P.underlying K = some .string) (h : MapF w r f) (x : Bytes) :
    ∃ o, (Builtin.delete_ #[T, K] ty #[.map (some r), ky x]).run P w = .ok (.tuple #[]) (setBlock w r o) ∧ MapF (setBlock w r o) r (fun y => if y = x then none else f y) := by
  obtain ⟨es, clock, l, hb, he, hn, rfl⟩ := h
  have hlt : r < w.heap.size := (Array.getElem?_eq_some_iff.1 hb).1
  rcases find_at x es.toList l 0 he with ⟨g1, g2⟩ | ⟨a, q, b, a', e', b', g1, g2, g3, g4, g5, g6, g7, g8, g9⟩
  · refine ⟨.map es clock, ?_, es, clock, del x l, ?_, ?_, nodup_del x l hn, ?_⟩
    · simp [Builtin.delete_, run_underlying hm, MapKept.run_getObj_map hb, check_ky hk, MapKept.run_findKey hk g1, MapKept.run_setObj_map _ hb, Result.andThen, setBlock]
    · simp [setBlock, hlt]
    · rw [del_no x l g2]; exact he
    · funext y; rw [look_del x y l hn]
  · refine ⟨.map (es.eraseIdxIfInBounds a'.length) clock, ?_, es.eraseIdxIfInBounds a'.length, clock, del x l, ?_, ?_, nodup_del x l hn, ?_⟩
    · rw [Nat.zero_add] at g8
      simp [Builtin.delete_, run_underlying hm, MapKept.run_getObj_map hb, check_ky hk, MapKept.run_findKey hk g8, MapKept.run_setObj_map _ hb, Result.andThen, setBlock]
    · simp [setBlock, hlt]
    · have hsz : a'.length < es.size := by rw [← Array.length_toList, g2]; simp
      have e0 : (es.eraseIdxIfInBounds a'.length).toList = a' ++ b' := by
        unfold Array.eraseIdxIfInBounds
        rw [dif_pos hsz, Array.toList_eraseIdx, g2]
        rw [List.eraseIdx_append_of_length_le (Nat.le_refl _)]
        simp
      unfold Ents at he ⊢
      rw [e0, g1, del_app x a q b g4 g7]
      rw [g1, g2] at he
      simp only [List.map_append, List.map_cons] at he ⊢
      have hl : (a'.map fun e => (e.key, e.val)).length = (a.map fun p => (ky p.1, p.2)).length := by simp [g3]
      obtain ⟨h1, h2⟩ := List.append_inj he hl
      rw [h1]
      congr 1
      simp only [List.cons.injEq] at h2
      exact h2.2
    · funext y; rw [look_del x y l hn]
end
end Go.Proofs.Yticakdajhmfpoaa.Mp
