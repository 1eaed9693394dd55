/-
  The example: facts.
-/
import Derived.Test.YtdhjibnkebbejaaDoorResHeadA
namespace Go.Proofs.YtdhjibnkebbejaaDoor.Rs
open Go.RowKit Mem Vw
set_option linter.unusedVariables false
set_option linter.unusedSimpArgs false

def sy1 : Sy := ⟨[false, false, false, false, false, false, false], [], [[97]], [([115], 0)], [⟨[107, 103], 1, 1, ⟨1, 1000⟩⟩, ⟨[116], 1, 1, ⟨1, 1⟩⟩], [⟨[103, 105, 118, 101], 5, ⟨1, 0, 0, -1, 0, ⟨5, 1⟩⟩⟩],
  [⟨[100], 6, ⟨3, false, []⟩, ⟨0, false, []⟩, ⟨1, 0, 0, 2, [⟨0, 4⟩], true, -1, -1, ⟨0, 1⟩, -1, -1⟩⟩]⟩
theorem ans1 : answer exs = (exs, sy1, []) := by kernel_rfl
theorem ans2 : answer exs2 = (srcz, sy0, [⟨9, 9⟩, ⟨8, 10⟩]) := by kernel_rfl
theorem exz_fst (b : Nat) : (exz b).map Prod.fst = exs.items := rfl
theorem exz2_fst (b : Nat) : (exz b ++ exz2).map Prod.fst = exs2.items := rfl
theorem exz_flat {w : World} {b : Nat} (h : w.heap[b]? = some (.cells #[.string ⟨#[100]⟩, .int .i64 4] 116 (0, 0))) : ∀ p ∈ exz b ++ exz2, Flat w p.1 p.2.1 p.2.2.1 p.2.2.2.1 ∧ IsSlice p.2.2.2.2 := by
  have h0 : ∀ x : Item, x.conds = [] → x.dates = [] → x.names = [] → Flat w x Vw.nil Vw.nil Vw.nil := fun x h1 h2 h3 => ⟨by rw [h1]; exact Row.nil _ _, by rw [h2]; exact Row.nil _ _, by rw [h3]; exact Row.nil _ _⟩
  have hs : IsSlice Vw.nil := ⟨none, 0, 0, rfl⟩
  intro p hp
  simp only [exz, exz2, List.cons_append, List.nil_append, List.mem_cons, List.not_mem_nil, or_false] at hp
  rcases hp with rfl | rfl | rfl | rfl | rfl | rfl | rfl | rfl
  · exact ⟨h0 _ rfl rfl rfl, hs⟩
  · exact ⟨h0 _ rfl rfl rfl, hs⟩
  · exact ⟨h0 _ rfl rfl rfl, hs⟩
  · exact ⟨h0 _ rfl rfl rfl, hs⟩
  · exact ⟨h0 _ rfl rfl rfl, hs⟩
  · refine ⟨⟨?_, Row.nil _ _, Row.nil _ _⟩, hs⟩
    refine ⟨_, 1, rfl, ⟨Nat.le_refl 1, by decide⟩, .inr ⟨b, 0, rfl, lt_of_blk h, fun i x hx => ?_⟩⟩
    match i, hx with
    | 0, hx =>
      have hx' : x = [.string ⟨#[100]⟩, .int .i64 4] := (Option.some.inj hx).symm
      subst hx'
      exact At.of_blk (cs := [.string ⟨#[100]⟩, .int .i64 4]) h
    | i + 1, hx => exact absurd hx (by simp [ex6, it0])
  · exact ⟨h0 _ rfl rfl rfl, hs⟩
  · exact ⟨h0 _ rfl rfl rfl, hs⟩
theorem wfs {n : Int} (h : -1000000 ≤ n ∧ n ≤ 1000000) : wf n := ⟨by omega, by omega⟩
theorem okS_of {x : Bytes} (h : x.length ≤ 100) : okS x := Nat.le_trans h (by decide)
theorem exs_ok : ∀ x ∈ exs2.items, ItemOk x ∧ x.conds.length ≤ 1000000 := by
  intro x hx
  have hx' : x = ex1 ∨ x = ex2 ∨ x = ex3 ∨ x = ex4 ∨ x = ex5 ∨ x = ex6 ∨ x = ex7 ∨ x = ex8 := by simpa [exs2] using hx
  rcases hx' with rfl | rfl | rfl | rfl | rfl | rfl | rfl | rfl <;>
  exact ⟨⟨wfs (by decide), okS_of (by decide), wfs (by decide), okS_of (by decide), okS_of (by decide), wfs (by decide), wfs (by decide), ⟨wfs (by decide), okS_of (by decide)⟩, ⟨wfs (by decide), okS_of (by decide)⟩, fun c hc => by first | (cases hc; done) | (obtain rfl : c = ⟨[100], 4⟩ := (by simpa [ex6, it0] using hc); exact ⟨okS_of (by decide), wfs (by decide)⟩), okS_of (by decide), okS_of (by decide), ⟨wfs (by decide), wfs (by decide)⟩, okS_of (by decide), okS_of (by decide), okS_of (by decide), okS_of (by decide), by decide, fun c hc => absurd hc (List.not_mem_nil), fun c hc => absurd hc (List.not_mem_nil)⟩, by decide⟩
theorem own_blk {w : World} {g base n : Nat} {e : TypeId} {size : Nat} {xs : List Value} (h : w.heap[g]? = some (.cells xs.toArray e (0, 0))) (hb : base ≤ g) (hl : xs.length = n * size) (hm : n ≤ maxLen) : w.ownsRow base e size (.slice (some ⟨g, 0, none⟩) n n) n xs :=
  ⟨hl, .inr ⟨g, n, _, rfl, hb, h, Nat.le_refl _, hm, by simpa using hl, by rw [← hl]; simp⟩⟩
theorem info_item3 : ∃ z, (Tryd.prog.info? 55).map (fun i => (i.zero, i.size, i.bytes)) = some (some z, 33, 368) ∧ z.cells.size = 33 := ⟨.agg (ic (it0, sl0)).toArray, by kernel_rfl, rfl⟩
theorem one_exz2 : (exz2.flatMap ic).all (·.oneCell') = true := by kernel_rfl
theorem Row.frg {S : Nat → Prop} {W W' : World} {g n c z : Nat} {xs : List (List Value)} (h : Row W (.slice (some ⟨g, 0, none⟩) n c) z xs) (hf : Fr S W W') (hs : ¬ S g) : Row W' (.slice (some ⟨g, 0, none⟩) n c) z xs := by
  obtain ⟨A, c', e, hb, h⟩ := h
  refine ⟨A, c', e, hb, ?_⟩
  rcases h with h | ⟨g', o, hA, hlt, hat⟩
  · exact .inl h
  · subst hA
    have hg : g = g' := by injection e with e _; injection e with e; injection e
    subst hg
    exact .inr ⟨g, o, rfl, Nat.lt_of_lt_of_le hlt hf.size, fun i x hx j u hu => (World.cell?_of_block (a := ⟨g, _, none⟩) (hf.block g hlt hs)).trans (hat i x hx j u hu)⟩
theorem Bf.below {W W' : World} (h : Bf W) (hb : Below W.heap.size W W') : Bf W' := h.fr (S := fun _ => False) ⟨hb.os, hb.tape, hb.output, hb.size, fun k hk _ => hb.block k hk⟩ (fun _ h => h.elim)
end Go.Proofs.YtdhjibnkebbejaaDoor.Rs
