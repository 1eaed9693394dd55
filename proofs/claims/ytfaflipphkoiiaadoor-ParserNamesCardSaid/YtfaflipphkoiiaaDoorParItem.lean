/-
  Items in memory: their cells, the rows of their lists.
-/
import Derived.Test.YtfaflipphkoiiaaDoorParWalkB
import Derived.Deep.MidRow
namespace Go.Proofs.YtfaflipphkoiiaaDoor.Pr
open Go.RowKit Mem
open Lx (Tok)
set_option linter.unusedVariables false

def sv (x : Bytes) : Value := .string ⟨x.toArray⟩
def nv (n : Nat) : Value := .int .i64 (n : Int)
def nil : Value := .slice none 0 0
/-- The cells of an item: sc, sd, sn, si are the slices of its lists. -/
def icells (f : Flat) (sc sd sn si : Value) : List Value :=
  [.int .i64 (f.kind : Int), .string ⟨f.name.toArray⟩, .int .i64 (f.pos : Int), .string ⟨f.of_.toArray⟩, .string ⟨f.act.toArray⟩, .int .i64 (f.word : Int), .int .i64 (f.times : Int),
   .int .i64 (f.within.days : Int), .bool f.within.bus, .string ⟨f.within.name.toArray⟩, .int .i64 (f.grace.days : Int), .bool f.grace.bus, .string ⟨f.grace.name.toArray⟩,
   sc, .string ⟨f.by_.toArray⟩, .string ⟨f.til.toArray⟩, .int .i64 (f.num.num : Int), .int .i64 (f.num.den : Int), .string ⟨f.unit.toArray⟩, .string ⟨f.sum.toArray⟩, .bool f.fin, .string ⟨f.give.toArray⟩, .string ⟨f.to_.toArray⟩,
   .bool (f.days.getD 0 false), .bool (f.days.getD 1 false), .bool (f.days.getD 2 false), .bool (f.days.getD 3 false), .bool (f.days.getD 4 false), .bool (f.days.getD 5 false), .bool (f.days.getD 6 false),
   sd, sn, si]
theorem icells_len (f : Flat) (sc sd sn si : Value) : (icells f sc sd sn si).length = 33 := rfl
theorem icells_one (f : Flat) (sc sd sn si : Value) (h1 : ∃ A n c, sc = .slice A n c) (h2 : ∃ A n c, sd = .slice A n c) (h3 : ∃ A n c, sn = .slice A n c) (h4 : ∃ A n c, si = .slice A n c) : (icells f sc sd sn si).toArray.all (·.oneCell') = true := by
  obtain ⟨_, _, _, rfl⟩ := h1
  obtain ⟨_, _, _, rfl⟩ := h2
  obtain ⟨_, _, _, rfl⟩ := h3
  obtain ⟨_, _, _, rfl⟩ := h4
  simp [icells, Value.oneCell']
theorem info_item : (Tryd.prog.info? 57).map (·.size) = some 33 := by kernel_rfl
/-- An item lies in a block. -/
def IB (q : Nat) (f : Flat) (sc sd sn si : Value) (W : World) : Prop := W.heap[q]? = some (.cells (icells f sc sd sn si).toArray 57 (0, 0))
theorem IB.range {q : Nat} {f : Flat} {sc sd sn si : Value} {W : World} (h : IB q f sc sd sn si W) : W.rangeAt q 0 (icells f sc sd sn si) := by
  intro j v hj
  rw [Nat.zero_add, cell_of_blk h]
  simpa using hj
theorem IB.there {q : Nat} {f : Flat} {sc sd sn si : Value} {W : World} (h : IB q f sc sd sn si W) : W.there q 0 33 := by
  intro j hj
  rw [Nat.zero_add]
  refine ⟨?_, froz_of_blk h j⟩
  rw [cell_of_blk h]
  have : j < (icells f sc sd sn si).length := hj
  simp [this]
theorem info_len (f : Flat) (sc sd sn si : Value) : (Tryd.prog.info? 57).map (·.size) = some (icells f sc sd sn si).length := by rw [icells_len]; exact info_item
theorem info_size (f : Flat) (sc sd sn si : Value) : (Tryd.prog.info? 57).map (·.size) = some (icells f sc sd sn si).toArray.size := by rw [List.size_toArray, icells_len]; exact info_item
theorem IB.there' {q : Nat} {f : Flat} {sc sd sn si : Value} {W : World} (h : IB q f sc sd sn si W) (g : Flat) (a1 a2 a3 a4 : Value) : W.there q 0 (icells g a1 a2 a3 a4).toArray.size := by rw [List.size_toArray, icells_len]; exact h.there
def cval (c : Named) : List Value := [.string ⟨c.name.toArray⟩, .int .i64 (c.is_ : Int)]
def dval (c : Civil) : List Value := [.int .i64 (c.y : Int), .int .i64 (c.m : Int), .int .i64 (c.d : Int)]
/-- The lists of an item are rows of the call's own. -/
def FlatOK (base : Nat) (f : Flat) (sc sd sn : Value) (W : World) : Prop :=
  W.ownsRow base 59 2 sc f.conds.length (f.conds.flatMap cval) ∧ W.ownsRow base 24 3 sd f.dates.length (f.dates.flatMap dval) ∧ W.ownsRow base 9 1 sn f.names.length (f.names.map sv)
theorem FlatOK.nil (base : Nat) (f : Flat) (W : World) (h1 : f.conds = []) (h2 : f.dates = []) (h3 : f.names = []) : FlatOK base f nil nil nil W := by
  unfold FlatOK
  rw [h1, h2, h3]
  exact ⟨World.ownsRow_nil _ _ _ _, World.ownsRow_nil _ _ _ _, World.ownsRow_nil _ _ _ _⟩

theorem expect1 (E : Env) (b : Nat) (s : St) (x : Bytes) (W1 : World) (g : Nat) (hg : g = W1.heap.size) (h : PW E b s W1) :
    Calls Tryd.prog 33 #[.pointer (some ⟨b, 0, none⟩), .slice (some ⟨g, 0, none⟩) 1 1] (W1.alloc (.cells #[.string ⟨x.toArray⟩] 9)) fun e w' => e = .returned (.tuple #[]) ∧ After E b (expect [x] s).2 W1 w' := by
  subst hg
  refine (expect_any E b s [x] W1.heap.size 0 1 _ (h.alloc _) (by simp) h.2.2.1 ?_ (by simp)).mono fun e w' ⟨he, ha⟩ => ⟨he, ((After.start h).alloc _).trans ha⟩
  intro i hi
  have hi0 : i = 0 := by simp at hi; omega
  subst hi0
  exact cell_of_blk (blk_new W1 _) 0
theorem Fr.setCells {S : Nat → Prop} {A : World} {q : Nat} (hq : S q ∨ A.heap.size ≤ q) (vs : List Value) : ∀ (o : Nat) (B : World), Fr S A B → Fr S A (B.setCells q o vs) := by
  induction vs with
  | nil => intro o B h; exact h
  | cons v r ih => intro o B h; exact ih (o + 1) _ (h.setCell (p := ⟨q, o, none⟩) hq v)
theorem After.setCells {E : Env} {b : Nat} {s : St} {W W1 : World} (h : After E b s W W1) {q : Nat} (hq : W.heap.size ≤ q) (hb : b < q) (o : Nat) (vs : List Value) : After E b s W (W1.setCells q o vs) :=
  ⟨h.1.fr (S := fun k => k = q) (Fr.setCells (S := fun k => k = q) (.inl rfl) vs o _ (Fr.refl _ _)) (fun k hk e => by omega), Fr.setCells (.inr hq) vs o _ h.2⟩
theorem results_cell {fn : Func} {r : Nat} {T : TypeId} (hf : fn.results = #[.cell r T]) {tmps : Array Value} {w : World} {a : Addr} {v : Value} (ht : tmps.getD r undef = .pointer (some a)) (hl : (loadVar T a).run Tryd.prog w = .ok v w) : (results fn tmps).run Tryd.prog w = .ok v w := by
  have ht' : tmps[r]?.getD undef = .pointer (some a) := by simpa using ht
  unfold results
  rw [hf]
  simp [ht', asAddr, hl]
/-- The end of a function that returns an item. -/
theorem item_end {E : Env} {b : Nat} {s : St} {W w2 : World} {g : Flat} {a1 a2 a3 a4 : Value} (HR : IB W.heap.size g a1 a2 a3 a4 w2) (HA : After E b s W w2) (hb : b < W.heap.size) (F : Flat) (sc sd sn si : Value) :
    ∃ w3, w2.setCells W.heap.size 0 (icells F sc sd sn si).toArray.toList = w3 ∧ After E b s W w3 ∧ (loadVar 57 ⟨W.heap.size, 0, none⟩).run Tryd.prog w3 = .ok (.agg (icells F sc sd sn si).toArray) w3 ∧
      (∀ base e z v n xs, W.heap.size < base → w2.ownsRow base e z v n xs → w3.ownsRow base e z v n xs) := by
  refine ⟨_, rfl, HA.setCells (Nat.le_refl _) hb _ _, ?_, ?_⟩
  · rw [List.toList_toArray]
    exact run_loadVar_mid _ _ _ _ (icells F sc sd sn si) _ (World.rangeAt_setCells_same _ _ _ _ (by rw [icells_len]; exact HR.there)) Tryd.underlying57 rfl (info_len _ _ _ _ _)
  · intro base e z v n xs hl ho
    exact own_fr ho (Fr.setCells (S := fun k => k = W.heap.size) (.inl rfl) _ _ _ (Fr.refl _ _)) (fun k hk _ e => by omega)
theorem wpList_build {ops : Array Oper} {rest : List Oper} {o : Oper} {a : Act} {w : World} {Q : Exit → Act → World → Prop} (hg : o.guard = none) (t : TypeId) (parts : Array (Nat × Operand)) (hop : o.op = .build t parts) (ps : Array (Nat × Value))
    (hp : parts.map (fun (i, x) => (i, a.eval x)) = ps) (v : Value) (hb : (Instr.build t ps).run Tryd.prog w = .ok v w) (h : wpList Tryd.prog ops Q rest (a.put o.dst v) w) : wpList Tryd.prog ops Q (o :: rest) a w := by
  refine wpList_plain hg fun K hK => ?_
  unfold Oper.wp
  simp [execOp, hop, hp, hb, Result.andThen]
  exact hK _ _ h
theorem setCells_new {t : TypeId} (cs : List Value) : ∀ (o : Nat) (W : World) (pre : List Value) (cs0 : List Value), pre.length = o → cs0.length = cs.length → (W.alloc (.cells (pre ++ cs0).toArray t)).setCells W.heap.size o cs = W.alloc (.cells (pre ++ cs).toArray t) := by
  induction cs with
  | nil => intro o W pre cs0 hp hl; obtain rfl : cs0 = [] := List.eq_nil_of_length_eq_zero hl; rfl
  | cons v r ih =>
    intro o W pre cs0 hp hl
    match cs0, hl with
    | u :: us, hl =>
      have e : (pre ++ u :: us).toArray.setIfInBounds o v = ((pre ++ [v]) ++ us).toArray := by simp [hp]
      have := ih (o + 1) W (pre ++ [v]) us (by simp [hp]) (by simpa using hl)
      rw [World.setCells, World.setCell_alloc_at _ _ _ _ _ rfl, e, this]
      simp
/-- A store of a whole struct into a block that was made just before. -/
theorem wpList_store_new {ops : Array Oper} {rest : List Oper} {o : Oper} {a : Act} {w0 : World} {cs0 : Array Value} {Q : Exit → Act → World → Prop} (hg : o.guard = none) (t : TypeId) (x y : Operand) (hop : o.op = .store t x y) (hx : a.eval x = .pointer (some ⟨w0.heap.size, 0, none⟩)) (cells : Array Value) (hy : a.eval y = .agg cells)
    (hi : (Tryd.prog.info? t).map (·.size) = some cells.size) (h1 : cells.all (·.oneCell') = true) (hs : cs0.size = cells.size) (h : wpList Tryd.prog ops Q rest (a.put o.dst undef) (w0.alloc (.cells cells t))) : wpList Tryd.prog ops Q (o :: rest) a (w0.alloc (.cells cs0 t)) := by
  have hbk := blk_new w0 (.cells cs0 t)
  refine wpList_store_mid hg t x y hop w0.heap.size 0 cells hx hy ?_ hi h1 ?_
  · intro j hj
    rw [Nat.zero_add]
    refine ⟨?_, froz_of_blk hbk j⟩
    rw [cell_of_blk hbk]
    have : j < cs0.size := by omega
    simp [this]
  · obtain ⟨l0⟩ := cs0
    obtain ⟨l⟩ := cells
    have e := setCells_new (t := t) l 0 w0 [] l0 rfl (by simpa using hs)
    simp only [List.nil_append] at e
    rw [show (⟨l⟩ : Array Value).toList = l from rfl, e]
    exact h
theorem load_blk {w : World} {q : Nat} {cs : List Value} {T T' : TypeId} {d : TypeDesc} (hu : Tryd.prog.underlying T = some d) (hd : d.isRow = true) (hi : (Tryd.prog.info? T).map (·.size) = some cs.length) (h : w.heap[q]? = some (.cells cs.toArray T' (0, 0))) : (loadVar T ⟨q, 0, none⟩).run Tryd.prog w = .ok (.agg cs.toArray) w :=
  run_loadVar_mid _ _ _ _ cs _ (fun j v hj => by rw [Nat.zero_add, cell_of_blk h]; simpa using hj) hu hd hi
theorem blk_drewN {w : World} {g : Nat} {o : Obj} (h : w.heap[g]? = some o) (m : Nat) : (w.drewN m).heap[g]? = some o := h
theorem size_drewN (w : World) (m : Nat) : (w.drewN m).heap.size = w.heap.size := rfl
theorem opt_some {k : Nat} {s s' : St} {t : Tok} (h : opt k s = (some t, s')) : isK k s = true ∧ take k s = (t, s') := by
  unfold opt at h
  cases hk : isK k s with
  | false => rw [hk] at h; simp at h
  | true =>
    refine ⟨rfl, ?_⟩
    rw [hk] at h
    simp only [if_true] at h
    simp [take, bnd, opt, hk, h, ret]
theorem opt_none {k : Nat} {s s' : St} (h : opt k s = (none, s')) : isK k s = false ∧ s' = s := by
  unfold opt at h
  cases hk : isK k s with
  | false => rw [hk] at h; simp at h; exact ⟨rfl, h.symm⟩
  | true =>
    obtain ⟨_, t, r, hr, _⟩ := isK_err hk
    rw [hk, hr] at h
    simp at h
theorem name_of_opt {s s' : St} {t : Tok} (h : opt 1 s = (some t, s')) : name s = (t.text, s') := by simp [name, bnd, ret, (opt_some h).2]
theorem number_of_opt {s s' : St} {t : Tok} (h : opt 2 s = (some t, s')) : number s = (t.n, s') := by simp [number, bnd, ret, (opt_some h).2]
theorem IB.set_kind {q : Nat} {f : Flat} {sc sd sn si : Value} {W : World} (h : IB q f sc sd sn si W) (x : Nat) : IB q { f with kind := x } sc sd sn si (W.setCell ⟨q, 0, none⟩ (.int .i64 (x : Int))) := by
  have h2 := (blk_set h 0 (.int .i64 (x : Int)))
  exact h2
theorem IB.set_name {q : Nat} {f : Flat} {sc sd sn si : Value} {W : World} (h : IB q f sc sd sn si W) (x : Bytes) : IB q { f with name := x } sc sd sn si (W.setCell ⟨q, 1, none⟩ (.string ⟨x.toArray⟩)) := by
  have h2 := (blk_set h 1 (.string ⟨x.toArray⟩))
  exact h2
theorem IB.set_of_ {q : Nat} {f : Flat} {sc sd sn si : Value} {W : World} (h : IB q f sc sd sn si W) (x : Bytes) : IB q { f with of_ := x } sc sd sn si (W.setCell ⟨q, 3, none⟩ (.string ⟨x.toArray⟩)) := by
  have h2 := (blk_set h 3 (.string ⟨x.toArray⟩))
  exact h2
theorem IB.set_act {q : Nat} {f : Flat} {sc sd sn si : Value} {W : World} (h : IB q f sc sd sn si W) (x : Bytes) : IB q { f with act := x } sc sd sn si (W.setCell ⟨q, 4, none⟩ (.string ⟨x.toArray⟩)) := by
  have h2 := (blk_set h 4 (.string ⟨x.toArray⟩))
  exact h2
theorem IB.set_word {q : Nat} {f : Flat} {sc sd sn si : Value} {W : World} (h : IB q f sc sd sn si W) (x : Nat) : IB q { f with word := x } sc sd sn si (W.setCell ⟨q, 5, none⟩ (.int .i64 (x : Int))) := by
  have h2 := (blk_set h 5 (.int .i64 (x : Int)))
  exact h2
theorem IB.set_times {q : Nat} {f : Flat} {sc sd sn si : Value} {W : World} (h : IB q f sc sd sn si W) (x : Nat) : IB q { f with times := x } sc sd sn si (W.setCell ⟨q, 6, none⟩ (.int .i64 (x : Int))) := by
  have h2 := (blk_set h 6 (.int .i64 (x : Int)))
  exact h2
theorem IB.set_within {q : Nat} {f : Flat} {sc sd sn si : Value} {W : World} (h : IB q f sc sd sn si W) (x : Span) : IB q { f with within := x } sc sd sn si (((W.setCell ⟨q, 7, none⟩ (.int .i64 (x.days : Int))).setCell ⟨q, 8, none⟩ (.bool x.bus)).setCell ⟨q, 9, none⟩ (.string ⟨x.name.toArray⟩)) := by
  have h2 := (blk_set (blk_set (blk_set h 7 (.int .i64 (x.days : Int))) 8 (.bool x.bus)) 9 (.string ⟨x.name.toArray⟩))
  exact h2
theorem IB.set_grace {q : Nat} {f : Flat} {sc sd sn si : Value} {W : World} (h : IB q f sc sd sn si W) (x : Span) : IB q { f with grace := x } sc sd sn si (((W.setCell ⟨q, 10, none⟩ (.int .i64 (x.days : Int))).setCell ⟨q, 11, none⟩ (.bool x.bus)).setCell ⟨q, 12, none⟩ (.string ⟨x.name.toArray⟩)) := by
  have h2 := (blk_set (blk_set (blk_set h 10 (.int .i64 (x.days : Int))) 11 (.bool x.bus)) 12 (.string ⟨x.name.toArray⟩))
  exact h2
theorem IB.set_by_ {q : Nat} {f : Flat} {sc sd sn si : Value} {W : World} (h : IB q f sc sd sn si W) (x : Bytes) : IB q { f with by_ := x } sc sd sn si (W.setCell ⟨q, 14, none⟩ (.string ⟨x.toArray⟩)) := by
  have h2 := (blk_set h 14 (.string ⟨x.toArray⟩))
  exact h2
theorem IB.set_til {q : Nat} {f : Flat} {sc sd sn si : Value} {W : World} (h : IB q f sc sd sn si W) (x : Bytes) : IB q { f with til := x } sc sd sn si (W.setCell ⟨q, 15, none⟩ (.string ⟨x.toArray⟩)) := by
  have h2 := (blk_set h 15 (.string ⟨x.toArray⟩))
  exact h2
theorem IB.set_num {q : Nat} {f : Flat} {sc sd sn si : Value} {W : World} (h : IB q f sc sd sn si W) (x : Ratio) : IB q { f with num := x } sc sd sn si ((W.setCell ⟨q, 16, none⟩ (.int .i64 (x.num : Int))).setCell ⟨q, 17, none⟩ (.int .i64 (x.den : Int))) := by
  have h2 := (blk_set (blk_set h 16 (.int .i64 (x.num : Int))) 17 (.int .i64 (x.den : Int)))
  exact h2
theorem IB.set_unit {q : Nat} {f : Flat} {sc sd sn si : Value} {W : World} (h : IB q f sc sd sn si W) (x : Bytes) : IB q { f with unit := x } sc sd sn si (W.setCell ⟨q, 18, none⟩ (.string ⟨x.toArray⟩)) := by
  have h2 := (blk_set h 18 (.string ⟨x.toArray⟩))
  exact h2
theorem IB.set_sum {q : Nat} {f : Flat} {sc sd sn si : Value} {W : World} (h : IB q f sc sd sn si W) (x : Bytes) : IB q { f with sum := x } sc sd sn si (W.setCell ⟨q, 19, none⟩ (.string ⟨x.toArray⟩)) := by
  have h2 := (blk_set h 19 (.string ⟨x.toArray⟩))
  exact h2
theorem IB.set_fin {q : Nat} {f : Flat} {sc sd sn si : Value} {W : World} (h : IB q f sc sd sn si W) (x : Bool) : IB q { f with fin := x } sc sd sn si (W.setCell ⟨q, 20, none⟩ (.bool x)) := by
  have h2 := (blk_set h 20 (.bool x))
  exact h2
theorem IB.set_give {q : Nat} {f : Flat} {sc sd sn si : Value} {W : World} (h : IB q f sc sd sn si W) (x : Bytes) : IB q { f with give := x } sc sd sn si (W.setCell ⟨q, 21, none⟩ (.string ⟨x.toArray⟩)) := by
  have h2 := (blk_set h 21 (.string ⟨x.toArray⟩))
  exact h2
theorem IB.set_to_ {q : Nat} {f : Flat} {sc sd sn si : Value} {W : World} (h : IB q f sc sd sn si W) (x : Bytes) : IB q { f with to_ := x } sc sd sn si (W.setCell ⟨q, 22, none⟩ (.string ⟨x.toArray⟩)) := by
  have h2 := (blk_set h 22 (.string ⟨x.toArray⟩))
  exact h2
end Go.Proofs.YtfaflipphkoiiaaDoor.Pr
