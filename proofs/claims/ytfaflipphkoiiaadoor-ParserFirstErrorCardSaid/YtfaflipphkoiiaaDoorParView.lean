/-
  Trees in memory, as they are read: rows of items and of their lists.
-/
import Derived.Test.YtfaflipphkoiiaaDoorParParseB
namespace Go.Proofs.YtfaflipphkoiiaaDoor.Pr
open Go.RowKit Mem
open Lx (Tok bs)
set_option linter.unusedVariables false

/-- A row of elements of z cells each reads so. -/
def Row (W : World) (v : Value) (z : Nat) (xs : List (List Value)) : Prop :=
  ∃ A cap, v = .slice A xs.length cap ∧ xs.length ≤ cap ∧ (xs = [] ∨ ∃ g o, A = some ⟨g, o, none⟩ ∧ g < W.heap.size ∧ ∀ i x, xs[i]? = some x → W.rangeAt g (o + i * z) x)
theorem Row.below {W W' : World} {v : Value} {z : Nat} {xs : List (List Value)} (h : Row W v z xs) (hb : Below W.heap.size W W') : Row W' v z xs := by
  obtain ⟨A, cap, rfl, hc, h⟩ := h
  refine ⟨A, cap, rfl, hc, ?_⟩
  rcases h with h | ⟨g, o, hA, hg, hr⟩
  · exact .inl h
  · refine .inr ⟨g, o, hA, Nat.lt_of_lt_of_le hg hb.size, fun i x hx j u hj => ?_⟩
    exact (hb.cell (p := ⟨g, _, none⟩) hg).trans (hr i x hx j u hj)
theorem Row.nil (W : World) (z : Nat) : Row W Pr.nil z [] := ⟨none, 0, rfl, Nat.le_refl _, .inl rfl⟩
theorem flat_at {α : Type} (f : α → List Value) (z : Nat) (l : List α) (hz : ∀ x ∈ l, (f x).length = z) : ∀ (i : Nat) (x : List Value), (l.map f)[i]? = some x → ∀ j u, x[j]? = some u → (l.flatMap f)[i * z + j]? = some u := by
  induction l with
  | nil => intro i x hx; simp at hx
  | cons a l ih =>
    intro i x hx j u hj
    have ha := hz a (by simp)
    rw [List.flatMap_cons]
    cases i with
    | zero =>
      simp only [List.map_cons, List.getElem?_cons_zero] at hx
      injection hx with hx
      subst hx
      have hl : j < (f a).length := (List.getElem?_eq_some_iff.1 hj).1
      rw [Nat.zero_mul, Nat.zero_add, List.getElem?_append_left hl]
      exact hj
    | succ i =>
      simp only [List.map_cons, List.getElem?_cons_succ] at hx
      rw [List.getElem?_append_right (by rw [ha, Nat.succ_mul]; omega), ha, show (i + 1) * z + j - z = i * z + j by rw [Nat.succ_mul]; omega]
      exact ih (fun x hx => hz x (by simp [hx])) i x hx j u hj
theorem Row.of_own {α : Type} {f : α → List Value} {z : Nat} {l : List α} {W : World} {base : Nat} {e : TypeId} {v : Value} (h : W.ownsRow base e z v l.length (l.flatMap f)) (hz : ∀ x ∈ l, (f x).length = z) : Row W v z (l.map f) := by
  rcases h.2 with ⟨rfl, h0⟩ | ⟨g, cap, cur, rfl, hg, hh, hn, hm, hsz, ht⟩
  · have : l = [] := List.eq_nil_of_length_eq_zero h0
    subst this
    exact Row.nil W z
  · refine ⟨_, cap, by rw [List.length_map], by rw [List.length_map]; first | exact hn | exact hm | omega, .inr ⟨g, 0, rfl, lt_of_blk hh, fun i x hx j u hj => ?_⟩⟩
    have := flat_at f z l hz i x hx j u hj
    rw [Nat.zero_add]
    unfold World.cell?
    simp only [hh]
    rw [← ht, List.getElem?_take] at this
    split at this
    · simpa using this
    · cases this
def VFlat (W : World) (f : Flat) (sc sd sn : Value) : Prop := Row W sc 2 (f.conds.map cval) ∧ Row W sd 3 (f.dates.map dval) ∧ Row W sn 1 (f.names.map fun x => [sv x])
def VInner (W : World) (l : List Flat) (v : Value) : Prop := ∃ vs : List (Value × Value × Value), vs.length = l.length ∧ Row W v 33 ((l.zip vs).map fun p => icells p.1 p.2.1 p.2.2.1 p.2.2.2 nil) ∧ ∀ p ∈ l.zip vs, VFlat W p.1 p.2.1 p.2.2.1 p.2.2.2
def VItems (W : World) (l : List Item) (v : Value) : Prop := ∃ vs : List Sl, vs.length = l.length ∧ Row W v 33 ((l.zip vs).map fun p => icells p.1.flat p.2.1 p.2.2.1 p.2.2.2.1 p.2.2.2.2) ∧ ∀ p ∈ l.zip vs, VFlat W p.1.flat p.2.1 p.2.2.1 p.2.2.2.1 ∧ VInner W p.1.inner p.2.2.2.2
theorem VFlat.below {W W' : World} {f : Flat} {sc sd sn : Value} (h : VFlat W f sc sd sn) (hb : Below W.heap.size W W') : VFlat W' f sc sd sn := ⟨h.1.below hb, h.2.1.below hb, h.2.2.below hb⟩
theorem VInner.below {W W' : World} {l : List Flat} {v : Value} (h : VInner W l v) (hb : Below W.heap.size W W') : VInner W' l v := by
  obtain ⟨vs, h1, h2, h3⟩ := h
  exact ⟨vs, h1, h2.below hb, fun p hp => (h3 p hp).below hb⟩
theorem VItems.below {W W' : World} {l : List Item} {v : Value} (h : VItems W l v) (hb : Below W.heap.size W W') : VItems W' l v := by
  obtain ⟨vs, h1, h2, h3⟩ := h
  exact ⟨vs, h1, h2.below hb, fun p hp => ⟨(h3 p hp).1.below hb, (h3 p hp).2.below hb⟩⟩
theorem VFlat.of {W : World} {base : Nat} {f : Flat} {sc sd sn : Value} (h : FlatOK base f sc sd sn W) : VFlat W f sc sd sn := by
  refine ⟨Row.of_own h.1 (fun _ _ => rfl), Row.of_own h.2.1 (fun _ _ => rfl), ?_⟩
  have e : f.names.map sv = f.names.flatMap fun x => [sv x] := by induction f.names with | nil => rfl | cons a l ih => simp [ih]
  have h3 := h.2.2
  rw [e] at h3
  exact Row.of_own h3 (fun _ _ => rfl)
theorem zip_len {α β : Type} {l : List α} {vs : List β} (h : vs.length = l.length) : (l.zip vs).length = l.length := by simp [h]
theorem VInner.of {W : World} {base : Nat} {l : List Flat} {v : Value} (h : RowI base l v W) : VInner W l v := by
  obtain ⟨_, vs, h1, h2, h3⟩ := h
  rw [← zip_len h1] at h2
  exact ⟨vs, h1, Row.of_own h2 (fun _ _ => rfl), fun p hp => VFlat.of (h3 p hp)⟩
theorem VItems.of {W : World} {base : Nat} {l : List Item} {v : Value} (h : RowS base l v W) : VItems W l v := by
  obtain ⟨vs, _, h1, h2, h3⟩ := h
  unfold scells at h2
  rw [← zip_len h1] at h2
  exact ⟨vs, h1, Row.of_own h2 (fun _ _ => rfl), fun p hp => ⟨VFlat.of (h3 p hp).1, VInner.of (h3 p hp).2.1⟩⟩
theorem VItems.form {W : World} {l : List Item} {v : Value} (h : VItems W l v) : ∃ A cap, v = .slice A l.length cap ∧ l.length ≤ cap := by
  obtain ⟨vs, h1, ⟨A, cap, e, hc, _⟩, _⟩ := h
  rw [List.length_map, zip_len h1] at e hc
  exact ⟨A, cap, e, hc⟩
theorem VItems.slice {W : World} {l : List Item} {v : Value} (h : VItems W l v) : ∃ A n c, v = .slice A n c := by
  obtain ⟨A, cap, e, _⟩ := h.form
  exact ⟨A, _, cap, e⟩

/-- Parse, with what it returns as a view. -/
theorem parse_okv (s : ByteArray) (w : World) (hs : s.size ≤ 9223372036854775807) (hw : Wks w) (src : Source) (h : parse (bs s) = .ok src) :
    Calls Tryd.prog 11 #[.string s] w fun e w' => (∃ si, e = .returned (.tuple #[.agg (srcells src.name src.frm src.days si).toArray, .int .i64 0, .int .i64 0]) ∧ VItems w' src.items si) ∧ Below w.heap.size w w' :=
  (parse_ok s w hs hw src h).mono fun e w' ⟨⟨si, he, hr⟩, hb⟩ => ⟨⟨si, he, VItems.of hr⟩, hb⟩
end Go.Proofs.YtfaflipphkoiiaaDoor.Pr
