/-
  Rows of elements in memory, as they are read; slices of any elements that came in as arguments, opened.
-/
import Derived.Test.YticakdajhmfpoaaMem
import Derived.OpenShut
import Derived.OwnWalk
import Derived.Lib.SmallJoins
namespace Go.Proofs.Yticakdajhmfpoaa.Vw
open Go.ChangeShapes Go.WideShapes Go.RowKit Mem
set_option linter.unusedVariables false

abbrev Bytes := List UInt8
def nil : Value := .slice none 0 0
/-- Cells lie in a block from an offset on. -/
def At (W : World) (g o : Nat) (cs : List Value) : Prop := ∀ j v, cs[j]? = some v → W.cell? ⟨g, o + j, none⟩ = some v
theorem At.below {W W' : World} {g o : Nat} {cs : List Value} (h : At W g o cs) (hg : g < W.heap.size) (hb : Below W.heap.size W W') : At W' g o cs :=
  fun j v hj => (hb.cell (p := ⟨g, _, none⟩) hg).trans (h j v hj)
theorem At.cell {W : World} {g o : Nat} {cs : List Value} (h : At W g o cs) (j : Nat) {v : Value} (hv : cs[j]? = some v) : W.cell? ⟨g, o + j, none⟩ = some v := h j v hv
theorem At.of_blk {W : World} {g : Nat} {cs : List Value} {t : TypeId} (h : W.heap[g]? = some (.cells cs.toArray t (0, 0))) : At W g 0 cs := by
  intro j v hj
  rw [Nat.zero_add, cell_of_blk h]
  simpa using hj
/-- A slice that is read: its elements, each a list of z cells. -/
def Row (W : World) (v : Value) (z : Nat) (xs : List (List Value)) : Prop :=
  ∃ A cap, v = .slice A xs.length cap ∧ (xs.length ≤ cap ∧ cap ≤ 9223372036854775807) ∧ (xs = [] ∨ ∃ g o, A = some ⟨g, o, none⟩ ∧ g < W.heap.size ∧ ∀ i x, xs[i]? = some x → At W g (o + i * z) x)
theorem Row.below {W W' : World} {v : Value} {z : Nat} {xs : List (List Value)} (h : Row W v z xs) (hb : Below W.heap.size W W') : Row W' v z xs := by
  obtain ⟨A, cap, rfl, hc, h⟩ := h
  refine ⟨A, cap, rfl, hc, ?_⟩
  rcases h with h | ⟨g, o, hA, hg, hr⟩
  · exact .inl h
  · exact .inr ⟨g, o, hA, Nat.lt_of_lt_of_le hg hb.size, fun i x hx => (hr i x hx).below hg hb⟩
theorem Row.nil (W : World) (z : Nat) : Row W Vw.nil z [] := ⟨none, 0, rfl, ⟨Nat.le_refl _, by decide⟩, .inl rfl⟩
theorem Row.form {W : World} {v : Value} {z : Nat} {xs : List (List Value)} (h : Row W v z xs) : ∃ A n c, v = .slice A n c := by
  obtain ⟨A, c, e, _⟩ := h
  exact ⟨A, _, c, e⟩
theorem Row.slice {W : World} {v : Value} {z : Nat} {xs : List (List Value)} (h : Row W v z xs) : ∃ A c, v = .slice A xs.length c ∧ xs.length ≤ c ∧ c ≤ 9223372036854775807 := by
  obtain ⟨A, c, e, h1, _⟩ := h
  exact ⟨A, c, e, h1⟩
theorem Row.len {W : World} {v : Value} {z : Nat} {xs : List (List Value)} (h : Row W v z xs) : xs.length ≤ 9223372036854775807 := by
  obtain ⟨A, c, e, ⟨h1, h2⟩, _⟩ := h
  omega
theorem Row.at {W : World} {v : Value} {z : Nat} {xs : List (List Value)} (h : Row W v z xs) (hne : xs ≠ []) : ∃ g o cap, v = .slice (some ⟨g, o, none⟩) xs.length cap ∧ g < W.heap.size ∧ xs.length ≤ cap ∧ cap ≤ 9223372036854775807 ∧ ∀ i x, xs[i]? = some x → At W g (o + i * z) x := by
  obtain ⟨A, c, e, h1, hr⟩ := h
  obtain ⟨g, o, hA, hg, hr2⟩ := hr.resolve_left hne
  subst hA
  exact ⟨g, o, c, e, hg, h1.1, h1.2, hr2⟩
theorem flat_at {α : Type} (f : α → List Value) (z : Nat) (l : List α) (hz : ∀ x ∈ l, (f x).length = z) : ∀ (i : Nat) (x : List Value), (l.map f)[i]? = some x → ∀ j u, x[j]? = some u → (l.flatMap f)[i * z + j]? = some u := by
  induction l with
  | nil => intro i x hx; simp at hx
  | cons a l ih =>
    intro i x hx j u hj
    have ha := hz a (by simp)
    cases i with
    | zero =>
      simp only [List.map_cons, List.getElem?_cons_zero, Option.some.injEq] at hx
      subst hx
      have hjl : j < (f a).length := (List.getElem?_eq_some_iff.1 hj).1
      rw [List.flatMap_cons, Nat.zero_mul, Nat.zero_add, List.getElem?_append_left hjl]
      exact hj
    | succ i =>
      simp only [List.map_cons, List.getElem?_cons_succ] at hx
      have := ih (fun x hx => hz x (by simp [hx])) i x hx j u hj
      rw [List.flatMap_cons, List.getElem?_append_right (by rw [ha, Nat.succ_mul]; omega), ha, Nat.succ_mul]
      rw [show i * z + z + j - z = i * z + j by omega]
      exact this
theorem Row.of_own {α : Type} {f : α → List Value} {z : Nat} {l : List α} {W : World} {base : Nat} {e : TypeId} {v : Value} (h : W.ownsRow base e z v l.length (l.flatMap f)) (hz : ∀ x ∈ l, (f x).length = z) : Row W v z (l.map f) := by
  rcases h.2 with ⟨rfl, h0⟩ | ⟨g, cap, cur, rfl, hg, hh, hn, hm, hsz, ht⟩
  · have : l = [] := List.eq_nil_of_length_eq_zero h0
    subst this
    exact Row.nil W z
  · refine ⟨_, cap, by rw [List.length_map], ⟨by rw [List.length_map]; exact hn, by unfold maxLen at hm; omega⟩, .inr ⟨g, 0, rfl, lt_of_blk hh, fun i x hx j u hj => ?_⟩⟩
    have := flat_at f z l hz i x hx j u hj
    rw [Nat.zero_add, cell_of_blk hh]
    rw [← Array.getElem?_toList]
    have hlt : i * z + j < (l.flatMap f).length := (List.getElem?_eq_some_iff.1 this).1
    rw [← ht] at this
    rw [List.getElem?_take] at this
    split at this
    · exact this
    · cases this

theorem lt_of_cell {w : World} {g o : Nat} {v : Value} (h : w.cell? ⟨g, o, none⟩ = some v) : g < w.heap.size := by
  rcases Nat.lt_or_ge g w.heap.size with hlt | hge
  · exact hlt
  · unfold World.cell? at h
    simp only [Array.getElem?_eq_none hge] at h
    cases h
theorem addr_plain {w : World} {a : Addr} {i : Nat} {v : Value} (h : w.cell? (a.add i) = some v) : ∃ g o, a.add i = ⟨g, o, none⟩ := by
  have hs := World.cell?_spot h
  generalize a.add i = x at *
  obtain ⟨b, off, spot⟩ := x
  exact ⟨b, off, by rw [show spot = none from hs]⟩
theorem mapM_get {α β : Type} {f : α → Option β} : ∀ {l : List α} {r : List β}, l.mapM f = some r → ∀ (i : Nat) (a : α), l[i]? = some a → ∃ b, r[i]? = some b ∧ f a = some b
  | [], r, h, i, a, ha => by simp at ha
  | x :: l, r, h, i, a, ha => by
    simp only [List.mapM_cons, Option.bind_eq_bind, Option.bind_eq_some_iff, Option.pure_def, Option.some.injEq] at h
    obtain ⟨b, hb, bs, hbs, rfl⟩ := h
    cases i with
    | zero => simp only [List.getElem?_cons_zero, Option.some.injEq] at ha; subst ha; exact ⟨b, rfl, hb⟩
    | succ i => simpa using mapM_get hbs i a (by simpa using ha)
/-- The cells that a reading takes. -/
theorem cells_at {w : World} {base : Nat} {a : Addr} {n : Nat} {cs : List Value} (h : w.cells? base a n = some cs) : cs.length = n ∧ ∀ j v, cs[j]? = some v → w.cell? (a.add j) = some v := by
  unfold World.cells? at h
  split at h
  · have hl : cs.length = n := by simpa using mapM_some_length h
    refine ⟨hl, fun j v hj => ?_⟩
    have hjn : j < n := by rw [← hl]; exact (List.getElem?_eq_some_iff.1 hj).1
    obtain ⟨b, hb, hf⟩ := mapM_get h j j (by simp [hjn])
    rw [hj] at hb
    injection hb with hb
    rw [hb]; exact hf
  · cases h
/-- A slice that came in, its elements opened one by one. -/
theorem row_of_trod {H : Type} {enc : TypeId × Value → H} {P : Program} {W : World} {base : Nat} {spare : Nat → Bool} {held : Bool} {fuel : Nat} {t e : TypeId} {z : Nat} {v : Value} {x : DataW H × List MemPlace} (ht : P.underlying t = some (.slice e)) (hC : P.cellsOf e = z) (hz : 0 < z) {α : Type} (f : α → List Value) (Q : α → Prop)
    (hE : ∀ n cs y, fuel = n + 1 → DataW.trod enc P W base spare held n e cs = some y → ∃ a, cs = f a ∧ Q a) (h : DataW.trod enc P W base spare held fuel t [v] = some x) :
    ∃ l : List α, Row W v z (l.map f) ∧ (∀ a ∈ l, Q a) ∧ l.length ≤ maxLen := by
  rcases DataW.trod_slice ht h with ⟨hcs, _⟩ | ⟨a, len, cap, elems, rest, n, hfu, hcs, _, _, hl, hm, hlen, hel, _, _⟩
  · injection hcs with hcs _
    subst hcs
    exact ⟨[], Row.nil W z, fun a ha => by simp at ha, by unfold maxLen; simp⟩
  · injection hcs with hcs _
    subst hcs
    rw [hC] at hel
    have key : ∀ i, i < len → ∃ b : α, Q b ∧ (f b).length = z ∧ ∀ j u, (f b)[j]? = some u → W.cell? ((a.add (i * z)).add j) = some u := by
      intro i hi
      have h1 := hel i hi
      have hi2 : i < elems.length := by omega
      rw [List.getElem?_eq_getElem hi2, Option.bind_eq_some_iff] at h1
      obtain ⟨cs, h2, h3⟩ := h1
      obtain ⟨b, hb, hq⟩ := hE n cs _ hfu h3
      subst hb
      obtain ⟨h4, h5⟩ := cells_at h2
      exact ⟨b, hq, h4, h5⟩
    have hall : ∀ n, n ≤ len → ∃ l : List α, l.length = n ∧ (∀ b ∈ l, Q b) ∧ ∀ i b, l[i]? = some b → (f b).length = z ∧ ∀ j u, (f b)[j]? = some u → W.cell? ((a.add (i * z)).add j) = some u := by
      intro n
      induction n with
      | zero => intro _; exact ⟨[], rfl, fun b hb => by simp at hb, fun i b hb => by simp at hb⟩
      | succ n ih =>
        intro hn
        obtain ⟨l, k1, k2, k3⟩ := ih (by omega)
        obtain ⟨b, q1, q2, q3⟩ := key n (by omega)
        refine ⟨l ++ [b], by simp [k1], ?_, ?_⟩
        · intro c hc
          rcases List.mem_append.1 hc with hc | hc
          · exact k2 c hc
          · simp only [List.mem_cons, List.not_mem_nil, or_false] at hc; subst hc; exact q1
        · intro i c hc
          by_cases hi : i < l.length
          · rw [List.getElem?_append_left hi] at hc
            exact k3 i c hc
          · rw [List.getElem?_append_right (by omega)] at hc
            have hi0 : i - l.length = 0 := by
              have := (List.getElem?_eq_some_iff.1 hc).1
              simp at this; omega
            rw [hi0] at hc
            simp only [List.getElem?_cons_zero, Option.some.injEq] at hc
            subst hc
            obtain rfl : i = n := by omega
            exact ⟨q2, q3⟩
    obtain ⟨l, k1, k2, k3⟩ := hall len (Nat.le_refl _)
    refine ⟨l, ⟨some a, cap, by rw [List.length_map, k1], ⟨by rw [List.length_map, k1]; exact hl, by unfold maxLen at hm; omega⟩, ?_⟩, k2, by omega⟩
    by_cases hp : l = []
    · left; rw [hp]; rfl
    · right
      have hp0 : 0 < l.length := List.length_pos_iff.2 hp
      obtain ⟨b0, hb0⟩ : ∃ b, l[0]? = some b := ⟨_, List.getElem?_eq_getElem hp0⟩
      obtain ⟨z0, c0⟩ := k3 0 b0 hb0
      have hu : ∃ u, (f b0)[0]? = some u := ⟨_, List.getElem?_eq_getElem (by omega)⟩
      obtain ⟨u, hu⟩ := hu
      have hc0 := c0 0 u hu
      obtain ⟨g, o, rfl⟩ : ∃ g o, a = ⟨g, o, none⟩ := by
        have e0 : (a.add (0 * z)).add 0 = a := by simp [Addr.add]
        rw [e0] at hc0
        have hs := World.cell?_spot hc0
        obtain ⟨b, off, spot⟩ := a
        exact ⟨b, off, by rw [show spot = none from hs]⟩
      have hadd : ∀ i j, (((⟨g, o, none⟩ : Addr).add (i * z)).add j) = ⟨g, o + i * z + j, none⟩ := by
        intro i j
        rw [Go.WideShapes.add_plain, Go.WideShapes.add_plain]
      refine ⟨g, o, rfl, ?_, ?_⟩
      · rw [hadd] at hc0; exact lt_of_cell hc0
      · intro i y hy j u hj
        rw [List.getElem?_map] at hy
        obtain ⟨b, hb, rfl⟩ := Option.map_eq_some_iff.1 hy
        have := (k3 i b hb).2 j u hj
        rw [hadd] at this
        exact this
end Go.Proofs.Yticakdajhmfpoaa.Vw
