/-
  Rows of items in memory: how they grow.
-/
import Derived.Test.YtfaflipphkoiiaaDoorParTab
namespace Go.Proofs.YtfaflipphkoiiaaDoor.Pr
open Go.RowKit Mem
open Lx (Tok)
set_option linter.unusedVariables false

theorem info_itemz : ∃ z, (Tryd.prog.info? 57).map (fun i => (i.zero, i.size, i.bytes)) = some (some z, 33, 368) ∧ z.cells.size = 33 := ⟨.agg (icells flat0 nil nil nil nil).toArray, by kernel_rfl, rfl⟩
theorem build_tmpl (n : Bytes) (w : World) : (Instr.build 57 #[(0, .int .i64 13), (1, .string ⟨n.toArray⟩)]).run Tryd.prog w = .ok (.agg (icells { flat0 with kind := 13, name := n } nil nil nil nil).toArray) w := by kernel_rfl
theorem run_bslice (f : Flat) (sc sd sn si : Value) (w : World) : (Instr.buildSlice 25 1 #[(0, .agg (icells f sc sd sn si).toArray)]).run Tryd.prog w = .ok (.slice (some ⟨w.heap.size, 0, none⟩) 1 1) (w.alloc (.cells (icells f sc sd sn si).toArray 57)) := by kernel_rfl
/-- A slice of one item is made, as one step of a region that draws. -/
theorem step_bslice {ops : Array Oper} {o : Oper} {a : Act} {w : World} {K : Act → World → Prop} {Q : Exit → Act → World → Prop} {X : Prop} (hg : o.guard = none) (x : Operand) (hop : o.op = .buildSlice 25 1 #[(0, x)]) (f : Flat) (sc sd sn si : Value) (hx : a.eval x = .agg (icells f sc sd sn si).toArray)
    (h : K (a.put o.dst (.slice (some ⟨w.heap.size, 0, none⟩) 1 1)) (w.alloc (.cells (icells f sc sd sn si).toArray 57))) :
    if Region.wanted o (yielded ops a.tmps) = true then Oper.wp Tryd.prog o a w K Q else X := by
  have hw : Region.wanted o (yielded ops a.tmps) = true := by simp [Region.wanted, hg]
  rw [if_pos hw]
  unfold Oper.wp
  simp [execOp, hop, hx, run_bslice, Result.andThen]
  exact h
theorem ent_item (args : Array Value) (W : World) : (callFunc 39 args).run Tryd.prog W = .ok (.enter 39 args) W := by kernel_rfl
theorem step_call2 {ops : Array Oper} {o : Oper} {a : Act} {w : World} {K : Act → World → Prop} {Q : Exit → Act → World → Prop} {X : Prop} (hg : o.guard = none) (f : Nat) (x0 x1 : Operand) (ts : Array TypeId) (hop : o.op = Op.call { callee := Callee.value (Operand.func f), args := #[x0, x1], argTypes := ts })
    (hent : ∀ args W, (callFunc f args).run Tryd.prog W = .ok (.enter f args) W) (v0 v1 : Value) (hx : a.eval x0 = v0) (hy : a.eval x1 = v1) {R : Ending → World → Prop} (hc : Calls Tryd.prog f #[v0, v1] w R) (h : ∀ e w', R e w' → ∃ v, e = .returned v ∧ K (a.put o.dst v) w') :
    if Region.wanted o (yielded ops a.tmps) = true then Oper.wp Tryd.prog o a w K Q else X :=
  step_call hg f #[x0, x1] ts hop hent #[v0, v1] (by simp [hx, hy]) hc h
theorem IB.set_si {q : Nat} {f : Flat} {sc sd sn si : Value} {W : World} (h : IB q f sc sd sn si W) (x : Value) : IB q f sc sd sn x (W.setCell ⟨q, 32, none⟩ x) := by
  have h2 := blk_set h 32 x
  exact h2

theorem own_grown {w w' : World} {base : Nat} {e : TypeId} {z : Nat} {u : Value} {n : Nat} {xs : List Value} {row : Option Nat} (h : w.ownsRow base e z u n xs) (hg : w.grownBy w' row) (hne : ∀ g, u.ownBlock = some g → row ≠ some g) : w'.ownsRow base e z u n xs := by
  refine ⟨h.1, ?_⟩
  rcases h.2 with h2 | ⟨g, cap, cur, hv, hb, hh, r⟩
  · exact .inl h2
  · subst hv
    exact .inr ⟨g, cap, cur, rfl, hb, (hg.block g (lt_of_blk hh) (fun e => hne g rfl e.symm)).trans hh, r⟩
theorem own_apart {w : World} {b1 b2 : Nat} {e1 e2 : TypeId} {z1 z2 : Nat} {v1 v2 : Value} {n1 n2 : Nat} {x1 x2 : List Value} (h1 : w.ownsRow b1 e1 z1 v1 n1 x1) (h2 : w.ownsRow b2 e2 z2 v2 n2 x2) (hne : e1 ≠ e2) : ∀ g, v1.ownBlock = some g → v2.ownBlock ≠ some g := by
  intro g hg1 hg2
  rcases h1.2 with ⟨rfl, _⟩ | ⟨a, c, cur, rfl, _, hh, _⟩
  · cases hg1
  rcases h2.2 with ⟨rfl, _⟩ | ⟨a', c', cur', rfl, _, hh', _⟩
  · cases hg2
  simp only [Value.ownBlock] at hg1 hg2
  injection hg1 with hg1
  injection hg2 with hg2
  subst hg1 hg2
  rw [hh] at hh'
  injection hh' with hh'
  injection hh' with _ e _
  exact hne e
theorem FlatOK.grown {w w' : World} {base b2 n : Nat} {f : Flat} {sc sd sn v : Value} {xs : List Value} (h : FlatOK base f sc sd sn w) (hv : w.ownsRow b2 57 33 v n xs) (hg : w.grownBy w' v.ownBlock) : FlatOK base f sc sd sn w' :=
  ⟨own_grown h.1 hg (own_apart h.1 hv (by decide)), own_grown h.2.1 hg (own_apart h.2.1 hv (by decide)), own_grown h.2.2 hg (own_apart h.2.2 hv (by decide))⟩
theorem RowI.grown {w w' : World} {base b2 n : Nat} {l : List Flat} {si v : Value} {xs : List Value} (h : RowI base l si w) (hv : w.ownsRow b2 57 33 v n xs) (hg : w.grownBy w' v.ownBlock) (hne : ∀ g, si.ownBlock = some g → v.ownBlock ≠ some g) : RowI base l si w' := by
  obtain ⟨h0, vs, h1, h2, h3⟩ := h
  exact ⟨h0, vs, h1, own_grown h2 hg hne, fun p hp => (h3 p hp).grown hv hg⟩
theorem RowI.lt {w : World} {base : Nat} {l : List Flat} {si : Value} (h : RowI base l si w) : ∀ g, si.ownBlock = some g → base ≤ g ∧ g < w.heap.size := by
  obtain ⟨_, vs, _, h2, _⟩ := h
  exact own_lt h2

abbrev Sl := Value × Value × Value × Value
def scells (l : List Item) (vs : List Sl) : List Value := (l.zip vs).flatMap fun p => icells p.1.flat p.2.1 p.2.2.1 p.2.2.2.1 p.2.2.2.2
/-- A row of items of the call's own, with the slices of their lists. -/
def RowSv (base : Nat) (l : List Item) (vs : List Sl) (v : Value) (W : World) : Prop :=
  (l = [] → v = nil) ∧ vs.length = l.length ∧ W.ownsRow base 57 33 v l.length (scells l vs) ∧
    ∀ p ∈ l.zip vs, FlatOK base p.1.flat p.2.1 p.2.2.1 p.2.2.2.1 W ∧ RowI base p.1.inner p.2.2.2.2 W ∧ ∀ g, p.2.2.2.2.ownBlock = some g → v.ownBlock ≠ some g
def RowS (base : Nat) (l : List Item) (v : Value) (W : World) : Prop := ∃ vs, RowSv base l vs v W
theorem RowSv.nil (base : Nat) (W : World) : RowSv base [] [] nil W := ⟨fun _ => rfl, rfl, World.ownsRow_nil _ _ _ _, fun p hp => by cases hp⟩
theorem RowSv.carry {base base' : Nat} {l : List Item} {vs : List Sl} {v : Value} {W W' : World} (h : RowSv base l vs v W) (hc : ∀ e z v n xs, W.ownsRow base e z v n xs → W'.ownsRow base' e z v n xs) : RowSv base' l vs v W' :=
  ⟨h.1, h.2.1, hc _ _ _ _ _ h.2.2.1, fun p hp => ⟨(h.2.2.2 p hp).1.carry hc, (h.2.2.2 p hp).2.1.carry hc, (h.2.2.2 p hp).2.2⟩⟩
theorem RowSv.fr {base : Nat} {l : List Item} {vs : List Sl} {v : Value} {W W' : World} {S : Nat → Prop} (h : RowSv base l vs v W) (hf : Fr S W W') (hs : ∀ k, base ≤ k → k < W.heap.size → ¬ S k) : RowSv base l vs v W' :=
  h.carry fun e z v n xs ho => own_fr ho hf hs
theorem RowSv.form {base : Nat} {l : List Item} {vs : List Sl} {v : Value} {W : World} (h : RowSv base l vs v W) : ∃ A cap, v = .slice A l.length cap := own_form h.2.2.1
/-- An item is appended. -/
theorem RowSv.snoc {base : Nat} {l : List Item} {vs : List Sl} {v : Value} {wr w2 w5 : World} {ob : Obj} {S : Nat → Prop} (h : RowSv base l vs v wr) (hf : Fr S wr w2) (hs : ∀ k, base ≤ k → k < wr.heap.size → ¬ S k) (hb : base ≤ wr.heap.size) {x : Item} {sc sd sn si : Value}
    (hF : FlatOK wr.heap.size x.flat sc sd sn w2) (hI : RowI wr.heap.size x.inner si w2) (hg : (w2.alloc ob).grownBy w5 v.ownBlock) {g cap : Nat} (hown : w5.ownsRow base 57 33 (.slice (some ⟨g, 0, none⟩) (l.length + 1) cap) (l.length + 1) (scells l vs ++ icells x.flat sc sd sn si)) (hat : v.ownBlock = some g ∨ g = w2.heap.size + 1) :
    RowSv base (l ++ [x]) (vs ++ [(sc, sd, sn, si)]) (.slice (some ⟨g, 0, none⟩) (l.length + 1) cap) w5 := by
  have h2 := h.fr hf hs
  have hsz := hf.size
  have h3 := h2.fr (S := fun _ => False) ((Fr.refl _ _).alloc ob) (fun _ _ _ h => h)
  have hv := h3.2.2.1
  have hvl := own_lt h.2.2.1
  have hz : (l ++ [x]).zip (vs ++ [(sc, sd, sn, si)]) = l.zip vs ++ [(x, sc, sd, sn, si)] := by
    rw [List.zip_append h.2.1.symm]; rfl
  refine ⟨fun e => by simp at e, by simp [h.2.1], ?_, ?_⟩
  · unfold scells
    rw [hz, List.flatMap_append, List.length_append]
    have e : [(x, sc, sd, sn, si)].flatMap (fun p : Item × Sl => icells p.1.flat p.2.1 p.2.2.1 p.2.2.2.1 p.2.2.2.2) = icells x.flat sc sd sn si := by simp
    rw [e]
    exact hown
  · rw [hz]
    intro p hp
    rcases List.mem_append.1 hp with hp | hp
    · obtain ⟨p1, p2, p3⟩ := h3.2.2.2 p hp
      refine ⟨p1.grown hv hg, p2.grown hv hg p3, ?_⟩
      intro k hk e
      simp only [Value.ownBlock] at e
      injection e with e
      rcases hat with hat | hat
      · exact p3 k hk (by rw [hat, e])
      · have := ((h2.2.2.2 p hp).2.1.lt k hk).2
        omega
    · rw [List.mem_singleton] at hp
      subst hp
      have hF2 : FlatOK wr.heap.size x.flat sc sd sn (w2.alloc ob) := hF.carry fun e z v n xs ho => own_fr ho ((Fr.refl (fun _ => False) _).alloc ob) (fun _ _ _ h => h)
      have hI2 : RowI wr.heap.size x.inner si (w2.alloc ob) := hI.carry fun e z v n xs ho => own_fr ho ((Fr.refl (fun _ => False) _).alloc ob) (fun _ _ _ h => h)
      have hne : ∀ k, si.ownBlock = some k → v.ownBlock ≠ some k := fun k hk e => by
        have := (hI.lt k hk).1
        have := (hvl k e).2
        omega
      have hF3 := hF2.grown hv hg
      have hI3 := hI2.grown hv hg hne
      refine ⟨hF3.carry fun e z v n xs ho => own_base ho hb, hI3.carry fun e z v n xs ho => own_base ho hb, ?_⟩
      intro k hk e
      simp only [Value.ownBlock] at e
      injection e with e
      rcases hat with hat | hat
      · exact hne k hk (by rw [hat, e])
      · have := (hI.lt k hk).2
        omega
/-- Another block than the rows' is written. -/
theorem RowSv.set {base : Nat} {l : List Item} {vs : List Sl} {v : Value} {W : World} (h : RowSv base l vs v W) {q i : Nat} (hq : q < base) (u : Value) : RowSv base l vs v (W.setCell ⟨q, i, none⟩ u) :=
  h.fr (S := fun k => k = q) ((Fr.refl _ _).setb i u) (fun k hk _ e => by omega)
theorem fm_congr {α β : Type} {f g : α → List β} : ∀ (l : List α), (∀ x ∈ l, f x = g x) → l.flatMap f = l.flatMap g
  | [], _ => rfl
  | a :: l, h => by rw [List.flatMap_cons, List.flatMap_cons, h a List.mem_cons_self, fm_congr l fun x hx => h x (List.mem_cons_of_mem _ hx)]
def solo (l : List Flat) : List Item := l.map fun f => ⟨f, []⟩
theorem RowSv.inner {base : Nat} {l : List Flat} {v : Value} {W : World} {vs : List Sl} (h : RowSv base (solo l) vs v W) : RowI base l v W := by
  obtain ⟨h0, h1, h2, h3⟩ := h
  have hl : (solo l).length = l.length := by simp [solo]
  have hzip : (solo l).zip vs = (l.zip vs).map fun p => (⟨p.1, []⟩, p.2) := by
    unfold solo
    rw [List.zip_map_left]
    rfl
  have hnil : ∀ p ∈ l.zip vs, p.2.2.2.2 = Pr.nil := by
    intro p hp
    exact (h3 (⟨p.1, []⟩, p.2) (by rw [hzip]; exact List.mem_map.2 ⟨p, hp, rfl⟩)).2.1.1 rfl
  refine ⟨fun e => h0 (by rw [e]; rfl), vs.map fun q => (q.1, q.2.1, q.2.2.1), by rw [List.length_map, h1, hl], ?_, ?_⟩
  · rw [hl] at h2
    have e : scells (solo l) vs = (l.zip (vs.map fun q => (q.1, q.2.1, q.2.2.1))).flatMap fun p => icells p.1 p.2.1 p.2.2.1 p.2.2.2 Pr.nil := by
      unfold scells
      rw [hzip, List.zip_map_right, List.flatMap_map, List.flatMap_map]
      refine fm_congr _ fun p hp => ?_
      show icells p.1 p.2.1 p.2.2.1 p.2.2.2.1 p.2.2.2.2 = icells p.1 p.2.1 p.2.2.1 p.2.2.2.1 Pr.nil
      rw [hnil p hp]
    rw [← e]
    exact h2
  · intro p hp
    rw [List.zip_map_right] at hp
    obtain ⟨q, hq, rfl⟩ := List.mem_map.1 hp
    exact (h3 (⟨q.1, []⟩, q.2) (by rw [hzip]; exact List.mem_map.2 ⟨q, hq, rfl⟩)).1
theorem After2.grown {E : Env} {b q : Nat} {s : St} {W W1 w4 : World} {v : Value} {o : Obj} (h : After2 E b q s W W1) (hg : (W1.alloc o).grownBy w4 v.ownBlock) (hv : ∀ g, v.ownBlock = some g → W.heap.size ≤ g) (hb : b < W.heap.size) : After2 E b q s W w4 := by
  have h2 : Fr (fun k => W.heap.size ≤ k) W1 w4 := ((Fr.refl _ _).alloc o).grown hg (fun k hk => .inl (hv k hk))
  exact ⟨h.1.fr h2 (fun k hk hs => by omega), h.2.trans' h2 (fun i hi hs => by omega)⟩
/-- Is there no error, as the parser's memory says it. -/
def okn (b : Nat) (w : World) : Nat := match w.cell? ⟨b, 4, none⟩ with | some (.int _ 0) => 1 | _ => 0
theorem PW.okn {E : Env} {b : Nat} {s : St} {w : World} (h : PW E b s w) : okn b w = if s.err = 0 then 1 else 0 := by
  obtain ⟨n, h1, h2, _, _, _, _, c4, _⟩ := h.cells
  unfold Pr.okn
  rw [c4]
  by_cases he : s.err = 0
  · simp [he]
  · rw [if_neg he]
    split
    · rename_i h
      injection h with h
      injection h with _ h
      omega
    · rfl
end Go.Proofs.YtfaflipphkoiiaaDoor.Pr
