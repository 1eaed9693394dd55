/-
  The holidays collected from their map, in whatever order, and sorted.
-/
import Derived.Test.YtdhjibnkebbejaaDoorResColl
import Derived.Test.YtdhjibnkebbejaaDoorIter
import Derived.Test.YtdhjibnkebbejaaDoorShelf
import Derived.Sort.OwnSortedInts
namespace Go.Proofs.YtdhjibnkebbejaaDoor.Rs
open Go.RowKit Mem Vw
set_option linter.unusedVariables false

/-- What has been handed out: the births, and the days. -/
structure Col (l : List Int) (seen : Array Nat) (ds : List Int) : Prop where
  eq : ds = seen.toList.map fun j => l.getD j 0
  nd : seen.toList.Nodup
  lt : ∀ j ∈ seen.toList, j < l.length
theorem Col.start (l : List Int) : Col l #[] [] := ⟨rfl, List.nodup_nil, fun j h => absurd h (List.not_mem_nil)⟩
theorem hents_mem {l : List Int} {e : MapEntry} (h : e ∈ (hents l).toList) : ∃ j, j < l.length ∧ e = { key := nv (l.getD j 0), val := .bool true, born := j } := by
  obtain ⟨j, hj⟩ := List.mem_iff_getElem?.1 h
  have hl : j < l.length := by
    have := (List.getElem?_eq_some_iff.1 hj).1
    rw [Array.length_toList, hents_size] at this
    exact this
  refine ⟨j, hl, ?_⟩
  have h2 := hents_at l 0 j (l.getD j 0) (by rw [List.getD_eq_getElem?_getD, List.getElem?_eq_getElem hl]; rfl)
  have h3 : (hents l).toList = hentsFrom 0 l := rfl
  rw [h3, h2, Nat.zero_add] at hj
  exact (Option.some.inj hj).symm
theorem hents_born : ∀ (l : List Int) (k : Nat), (hentsFrom k l).map (·.born) = List.range' k l.length
  | [], k => rfl
  | d :: l, k => by simp only [hentsFrom, List.map_cons, List.length_cons, List.range'_succ, hents_born l (k + 1)]
theorem hents_nodup (l : List Int) : ((hents l).toList.map (·.born)).Nodup := by
  have h3 : (hents l).toList = hentsFrom 0 l := rfl
  rw [h3, hents_born]
  exact List.nodup_range'
theorem hents_lt {l : List Int} : ∀ x ∈ (hents l).toList, x.born < l.length := by
  intro x hx
  obtain ⟨j, hj, rfl⟩ := hents_mem hx
  exact hj
theorem Col.step {l : List Int} {seen : Array Nat} {ds : List Int} (h : Col l seen ds) {e : MapEntry} (he : e ∈ (leftOf (hents l) seen).toList) :
    ∃ d j, e = { key := nv d, val := .bool true, born := j } ∧ Col l (seen.push j) (ds ++ [d]) := by
  obtain ⟨h1, h2⟩ := mem_left he
  obtain ⟨j, hj, rfl⟩ := hents_mem h1
  have h2' : j ∉ seen.toList := by
    intro hm
    have : seen.contains j = true := by rw [Array.contains_iff_mem]; exact Array.mem_toList_iff.1 hm
    rw [this] at h2; cases h2
  refine ⟨_, j, rfl, ?_, ?_, ?_⟩
  · rw [Array.toList_push, List.map_append, h.eq]
    rfl
  · rw [Array.toList_push, List.nodup_append]
    refine ⟨h.nd, by simp, fun a ha b hb e => ?_⟩
    simp only [List.mem_cons, List.not_mem_nil, or_false] at hb
    subst hb; subst e
    exact h2' ha
  · intro i hi
    rw [Array.toList_push] at hi
    rcases List.mem_append.1 hi with hi | hi
    · exact h.lt i hi
    · simp only [List.mem_cons, List.not_mem_nil, or_false] at hi
      subst hi; exact hj
theorem Col.done {l : List Int} {seen : Array Nat} {ds : List Int} (h : Col l seen ds) (h0 : (leftOf (hents l) seen).size = 0) : ds.Perm l := by
  have h2 : leftOf (hents l) seen = #[] := Array.eq_empty_of_size_eq_zero h0
  unfold leftOf at h2
  rw [Array.filter_eq_empty_iff] at h2
  have hall : ∀ j, j < l.length → j ∈ seen.toList := by
    intro j hj
    have hm : ({ key := nv (l.getD j 0), val := .bool true, born := j } : MapEntry) ∈ hents l := by
      rw [← Array.mem_toList_iff]
      have h3 : (hents l).toList = hentsFrom 0 l := rfl
      rw [h3]
      have h4 := hents_at l 0 j (l.getD j 0) (by rw [List.getD_eq_getElem?_getD, List.getElem?_eq_getElem hj]; rfl)
      rw [Nat.zero_add] at h4
      exact List.mem_of_getElem? h4
    have h5 := h2 _ hm
    simp only [Bool.not_eq_true', Bool.not_eq_false] at h5
    exact Array.mem_toList_iff.2 (Array.contains_iff_mem.1 h5)
  have hp : seen.toList.Perm (List.range l.length) := by
    rw [List.perm_ext_iff_of_nodup h.nd List.nodup_range]
    intro a
    rw [List.mem_range]
    exact ⟨h.lt a, hall a⟩
  have hm := hp.map (fun j => l.getD j 0)
  rw [← h.eq] at hm
  have : (List.range l.length).map (fun j => l.getD j 0) = l := by
    apply List.ext_getElem?
    intro i
    rw [List.getElem?_map]
    by_cases hi : i < l.length
    · rw [List.getElem?_range hi]
      simp [hi]
    · rw [List.getElem?_eq_none (by simpa using hi), List.getElem?_eq_none (by omega)]
      rfl
  rw [this] at hm
  exact hm
def dsort (l : List Int) : List Int := l.mergeSort fun x y => decide (x ≤ y)
theorem dsort_pair (l : List Int) : (dsort l).Pairwise (fun x y => x ≤ y) := by
  have := List.pairwise_mergeSort (le := fun x y : Int => decide (x ≤ y)) (fun a b c h1 h2 => by simp at *; omega) (fun a b => by simp; omega) l
  exact this.imp (fun h => by simpa using h)
theorem dsort_perm {l l' : List Int} (h : l.Perm l') : dsort l = dsort l' := by
  refine List.Perm.eq_of_pairwise (le := fun x y => x ≤ y) (fun a b _ _ h1 h2 => by omega) (dsort_pair l) (dsort_pair l') ?_
  exact ((List.mergeSort_perm l _).trans h).trans (List.mergeSort_perm l' _).symm
/-- The library's sort, at a row that the call owns. -/
theorem sort_own {w : World} {base : Nat} {v : Value} {l : List Int} (h : w.ownsRow base 3 1 v l.length (l.map nv)) (hl : l.length < 4611686018427387904) :
    Calls Tryd.prog 29 #[v] w fun e w' => e = .returned (.tuple #[]) ∧ w.grownBy w' v.ownBlock ∧ w'.ownsRow base 3 1 v l.length ((dsort l).map nv) := by
  rcases h.2 with ⟨rfl, h0⟩ | ⟨g, cap, cur, rfl, hg, hb, h1, h2, h3, h4⟩
  · have hn : l = [] := List.eq_nil_of_length_eq_zero h0
    subst hn
    refine (Tryd.slices_Sort_int_none none 0 w).mono ?_
    rintro e w' ⟨rfl, rfl⟩
    exact ⟨rfl, ⟨rfl, rfl, rfl, Nat.le_refl _, fun _ _ _ => rfl⟩, by simpa [dsort] using h⟩
  · have ht : cur.toList.take l.length = l.map (Value.int .i64) := by rw [Nat.mul_one] at h4; exact h4
    refine (Tryd.slices_Sort_int g 0 cap l w (holds_of_blockI hb ht) (lt_of_blk hb) hl).mono ?_
    rintro e w' ⟨rfl, n, os, rfl⟩
    refine ⟨rfl, grownBy_sortedI _, ?_⟩
    exact ownsRow_sortedI (ss := l) (ts := dsort l) (List.length_mergeSort _) hg hb h1 h2 h3
theorem dsort_len (l : List Int) : (dsort l).length = l.length := List.length_mergeSort _
/-- Without faults there are 400 holidays at most. -/
theorem item_hol (t : Tab) (s : Sy) (x : Item) (tw mb : Bool) (h : s.hol.length ≤ 400) (he : (item t s x tw mb).2 = 0) : (item t s x tw mb).1.hol.length ≤ 400 := by
  unfold item at he ⊢
  by_cases h4 : x.kind = 4
  · rw [if_pos h4]; exact h
  rw [if_neg h4] at he ⊢
  by_cases h5 : x.kind = 5
  · rw [if_pos h5] at he ⊢
    unfold holiday at he ⊢
    split
    · exact h
    · rename_i hn
      rw [if_neg hn] at he
      dsimp only at he ⊢
      by_cases hb : ((x.dates.filterMap number).foldl hput s.hol).length > 400
      · rw [if_pos hb] at he; omega
      · omega
  rw [if_neg h5] at he ⊢
  repeat' split
  all_goals exact h
theorem items_hol (t : Tab) : ∀ (l : List Item) (ms : List (Bool × Bool)) (s : Sy) (f : List Fault), s.hol.length ≤ 400 → (items t s f l ms).2 = [] → (items t s f l ms).1.hol.length ≤ 400 ∧ f = []
  | [], ms, s, f, h, hf => ⟨h, hf⟩
  | x :: l, [], s, f, h, hf => ⟨h, hf⟩
  | x :: l, m :: ms, s, f, h, hf => by
    simp only [items] at hf ⊢
    by_cases he : (item t s x m.1 m.2).2 = 0
    · rw [if_pos he] at hf ⊢
      exact items_hol t l ms _ f (item_hol t s x m.1 m.2 h he) hf
    · rw [if_neg he] at hf
      by_cases hg : (item t s x m.1 m.2).1.hol.length ≤ 400
      · have := (items_hol t l ms _ _ hg hf).2
        simp at this
      · exfalso
        have key : ∀ (l : List Item) (ms : List (Bool × Bool)) (s : Sy) (f : List Fault), f ≠ [] → (items t s f l ms).2 ≠ [] := by
          intro l
          induction l with
          | nil => intro ms s f hf; exact hf
          | cons y l ih =>
            intro ms s f hf
            cases ms with
            | nil => exact hf
            | cons m ms =>
              simp only [items]
              apply ih
              split
              · exact hf
              · simp
        exact key l ms _ _ (by simp) hf
theorem run_hol {l : List Item} (h : (Rs.run l).2 = []) : (Rs.run l).1.hol.length ≤ 400 := (items_hol _ l _ sy0 [] (by simp [sy0]) h).1
theorem nodup_le : ∀ (n : Nat) (l : List Nat), l.Nodup → (∀ j ∈ l, j < n) → l.length ≤ n
  | 0, [], _, _ => Nat.le_refl _
  | 0, x :: l, _, h => absurd (h x (List.mem_cons_self ..)) (by omega)
  | n + 1, l, hn, h => by
    by_cases hm : n ∈ l
    · have := nodup_le n (l.erase n) (hn.erase n) (fun j hj => by
        have h1 := (hn.mem_erase_iff).1 hj
        have h2 := h j h1.2
        have h3 := h1.1
        omega)
      rw [List.length_erase_of_mem hm] at this
      omega
    · have := nodup_le n l hn (fun j hj => by
        have h2 := h j hj
        have h3 : j ≠ n := fun e => hm (e ▸ hj)
        omega)
      omega
theorem iterSeen_of {w : World} {r : Nat} {m : Option Nat} {a b : Nat} {s : Array Nat} (h : w.heap[r]? = some (.mapIter m a s b)) : w.iterSeen r = s := by
  unfold World.iterSeen
  rw [h]
/-- The loop over the map of holidays. -/
structure HRel (src : Source) (s : Sy) (H : RH) (mi : Nat → Nat) (mem : Value) (q hm : Nat) (ws : World) (seen : Array Nat) (ds : List Int) (v : Value) (w : World) : Prop where
  col : Col s.hol seen ds
  fr : Fr (fun j => j = q) ws w
  qb : w.heap[q]? = some (.cells (rcells src s.weekend { H with hol := v } mi mem hm).toArray 94 (0, 0))
  own : w.ownsRow (ws.heap.size + 1) 3 1 v ds.length (ds.map nv)
  it : w.heap[ws.heap.size]? = some (.mapIter (some hm) s.hol.length seen s.hol.length)
theorem HRel.le {src : Source} {s : Sy} {H : RH} {mi : Nat → Nat} {mem : Value} {q hm : Nat} {ws : World} {seen : Array Nat} {ds : List Int} {v : Value} {w : World} (h : HRel src s H mi mem q hm ws seen ds v w) : ds.length ≤ s.hol.length := by
  have h1 := h.col.nd
  have h3 := h.col.eq
  rw [h3, List.length_map]
  exact nodup_le _ _ h1 h.col.lt
end Go.Proofs.YtdhjibnkebbejaaDoor.Rs
