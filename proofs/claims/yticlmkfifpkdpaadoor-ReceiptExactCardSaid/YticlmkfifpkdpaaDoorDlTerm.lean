/-
  Terms in plain Lean: what package deadline computes.
-/
import Derived.Test.YticlmkfifpkdpaaDoorDlPlain
namespace Go.Proofs.YticlmkfifpkdpaaDoor.Dl
set_option linter.unusedVariables false
set_option linter.unusedSimpArgs false

structure When where
  known : Bool
  day : Int
  min : Int
inductive Term where
  | mk (kind n ev : Int) (bus : Bool) (kids : List Term)
namespace Term
def kind : Term → Int | .mk k _ _ _ _ => k
def n : Term → Int | .mk _ n _ _ _ => n
def ev : Term → Int | .mk _ _ e _ _ => e
def bus : Term → Bool | .mk _ _ _ b _ => b
def kids : Term → List Term | .mk _ _ _ _ l => l
theorem eta (t : Term) : t = .mk t.kind t.n t.ev t.bus t.kids := by cases t; rfl
theorem ind {P : Term → Prop} (h : ∀ k n e b l, (∀ t ∈ l, P t) → P (.mk k n e b l)) : ∀ t, P t
  | .mk k n e b l => h k n e b l (fun t ht => ind h t)
termination_by t => sizeOf t
decreasing_by
  have := List.sizeOf_lt_of_mem ht
  simp_wf
  omega
end Term
mutual
/-- The nodes, each with the number of nodes on the path to it. -/
def nodes (d : Nat) : Term → List (Nat × Term)
  | .mk k n e b l => (d, .mk k n e b l) :: nodesL (d + 1) l
def nodesL (d : Nat) : List Term → List (Nat × Term)
  | [] => []
  | t :: l => nodes d t ++ nodesL d l
end
theorem nodes_mk (d : Nat) (t : Term) : nodes d t = (d, t) :: nodesL (d + 1) t.kids := by cases t; rfl
theorem nodesL_eq (d : Nat) (l : List Term) : nodesL d l = l.flatMap (nodes d) := by
  induction l with
  | nil => rfl
  | cons t l ih => rw [nodesL, ih]; rfl
theorem nodesL_app (d : Nat) (a b : List Term) : nodesL d (a ++ b) = nodesL d a ++ nodesL d b := by
  rw [nodesL_eq, nodesL_eq, nodesL_eq, List.flatMap_append]
theorem nodes_self (d : Nat) (t : Term) : (d, t) ∈ nodes d t := by rw [nodes_mk]; exact List.mem_cons_self
theorem nodes_kid {d : Nat} {t u : Term} {x : Nat × Term} (h : u ∈ t.kids) (hx : x ∈ nodes (d + 1) u) : x ∈ nodes d t := by
  rw [nodes_mk, nodesL_eq]
  exact List.mem_cons_of_mem _ (List.mem_flatMap.2 ⟨u, h, hx⟩)
/-- The nodes one deeper. -/
theorem nodes_shift (k : Nat) : ∀ (t : Term) (d : Nat), nodes (d + k) t = (nodes d t).map fun x => (x.1 + k, x.2) := by
  refine Term.ind ?_
  intro kd n e b l ih d
  rw [nodes_mk, nodes_mk, nodesL_eq, nodesL_eq, List.map_cons, List.map_flatMap]
  refine congrArg _ ?_
  show l.flatMap (nodes (d + k + 1)) = l.flatMap _
  have : ∀ l : List Term, (∀ t ∈ l, ∀ d, nodes (d + k) t = (nodes d t).map fun x => (x.1 + k, x.2)) → l.flatMap (nodes (d + k + 1)) = l.flatMap fun a => (nodes (d + 1) a).map fun x => (x.1 + k, x.2) := by
    intro l hl
    induction l with
    | nil => rfl
    | cons u l ih2 =>
      rw [List.flatMap_cons, List.flatMap_cons, ih2 (fun t ht => hl t (List.mem_cons_of_mem _ ht)), show d + k + 1 = d + 1 + k by omega, hl u List.mem_cons_self]
  exact this l ih
/-- What the nodes of a kind must be like. -/
def fits (N : Int) (t : Term) : Bool :=
  if t.kind = 1 then isDay t.n && decide (t.ev = 0) && !t.bus && decide (t.kids.length = 0)
  else if t.kind = 2 then decide (t.n = 0) && (decide (0 ≤ t.ev) && decide (t.ev ≤ N - 1)) && !t.bus && decide (t.kids.length = 0)
  else if t.kind = 3 then (decide (0 ≤ t.n) && decide (t.n ≤ 1440)) && (decide (0 ≤ t.ev) && decide (t.ev ≤ N - 1)) && !t.bus && decide (t.kids.length = 0)
  else if t.kind = 4 then (decide (0 ≤ t.n) && decide (t.n ≤ 1000)) && decide (t.ev = 0) && decide (t.kids.length = 1)
  else if t.kind = 5 then (decide (0 ≤ t.n) && decide (t.n ≤ 120)) && decide (t.ev = 0) && !t.bus && decide (t.kids.length = 1)
  else if t.kind = 6 then decide (t.n = 0) && decide (t.ev = 0) && !t.bus && decide (t.kids.length = 1)
  else if t.kind = 7 ∨ t.kind = 8 then decide (t.n = 0) && decide (t.ev = 0) && !t.bus && decide (0 < t.kids.length)
  else false
/-- The nodes fit, and there are not too many, from a count on. -/
def okFrom (N : Int) (count : Nat) : List (Nat × Term) → Bool
  | [] => true
  | x :: r => decide (count < 40) && decide (x.1 ≤ 10) && fits N x.2 && okFrom N (count + 1) r
def valid (t : Term) (N : Int) : Bool := (decide (0 ≤ N) && decide (N ≤ 1000)) && okFrom N 0 (nodes 1 t)
theorem okFrom_iff (N : Int) (l : List (Nat × Term)) : ∀ c, okFrom N c l = true ↔ (l = [] ∨ c + l.length ≤ 40) ∧ ∀ x ∈ l, x.1 ≤ 10 ∧ fits N x.2 = true := by
  induction l with
  | nil => intro c; simp [okFrom]
  | cons x r ih =>
    intro c
    rw [okFrom, Bool.and_eq_true, Bool.and_eq_true, Bool.and_eq_true, ih, decide_eq_true_eq, decide_eq_true_eq]
    constructor
    · rintro ⟨⟨⟨h1, h2⟩, h3⟩, h4, h5⟩
      refine ⟨.inr ?_, ?_⟩
      · rw [List.length_cons]
        rcases h4 with rfl | h4
        · simp; omega
        · omega
      · intro y hy
        rcases List.mem_cons.1 hy with rfl | hy
        · exact ⟨h2, h3⟩
        · exact h5 y hy
    · rintro ⟨h1, h2⟩
      rcases h1 with h1 | h1
      · cases h1
      · rw [List.length_cons] at h1
        exact ⟨⟨⟨by omega, (h2 x List.mem_cons_self).1⟩, (h2 x List.mem_cons_self).2⟩, .inr (by omega), fun y hy => h2 y (List.mem_cons_of_mem _ hy)⟩
theorem valid_iff (t : Term) (N : Int) : valid t N = true ↔ (0 ≤ N ∧ N ≤ 1000) ∧ (nodes 1 t).length ≤ 40 ∧ ∀ x ∈ nodes 1 t, x.1 ≤ 10 ∧ fits N x.2 = true := by
  unfold valid
  rw [Bool.and_eq_true, okFrom_iff, Bool.and_eq_true, decide_eq_true_eq, decide_eq_true_eq, nodes_mk]
  simp
def hasEv (t : Term) : Bool := decide (t.kind = 2) || decide (t.kind = 3)
def When.ok (w : When) : Bool := !w.known || (isDay w.day && (decide (0 ≤ w.min) && decide (w.min ≤ 1439)))
def evsOk (l : List When) : Bool := l.all When.ok
def evAt (l : List When) (e : Int) : When := l.getD e.toNat ⟨false, 0, 0⟩
def least1 : List Int → Int | [] => 0 | a :: l => l.foldl min a
def most1 : List Int → Int | [] => 0 | a :: l => l.foldl max a
/-- How the day of a node follows from the days of its kids. -/
noncomputable def node (c : Cal) (l : List When) (t : Term) (ds : List Int) : Option Int :=
  if t.kind = 1 then some t.n
  else if t.kind = 2 then some (evAt l t.ev).day
  else if t.kind = 3 then some (if (evAt l t.ev).min ≥ t.n then (evAt l t.ev).day + 1 else (evAt l t.ev).day)
  else if t.kind = 4 then (if t.bus then add c (ds.getD 0 0) t.n else some (ds.getD 0 0 + t.n))
  else if t.kind = 5 then months (ds.getD 0 0) t.n
  else if t.kind = 6 then add c (ds.getD 0 0) 0
  else if t.kind = 7 then some (least1 ds)
  else some (most1 ds)
def inRange (o : Option Int) : Option Int := match o with | some d => if isDay d then some d else none | none => none
mutual
/-- The day of a term. -/
noncomputable def day (c : Cal) (l : List When) : Term → Option Int
  | .mk k n e b kids => match dayL c l kids with
    | none => none
    | some ds => inRange (node c l (.mk k n e b kids) ds)
noncomputable def dayL (c : Cal) (l : List When) : List Term → Option (List Int)
  | [] => some []
  | t :: r => match day c l t with
    | none => none
    | some d => match dayL c l r with
      | none => none
      | some ds => some (d :: ds)
end
theorem day_mk (c : Cal) (l : List When) (t : Term) : day c l t = match dayL c l t.kids with | none => none | some ds => inRange (node c l t ds) := by cases t; rw [day]; rfl
def allKnown (l : List When) (t : Term) : Bool := (nodes 1 t).all fun x => !hasEv x.2 || (evAt l x.2.ev).known
/-- What Eval returns: the day, whether it is known, the error. -/
noncomputable def eval (t : Term) (c : Cal) (l : List When) : Int × Bool × Int :=
  if !c.ok || !valid t l.length || !evsOk l then (0, false, 1)
  else if !allKnown l t then (0, false, 0)
  else match day c l t with
    | none => (0, false, 2)
    | some d => (d, true, 0)
def pairOk (a b : When) : Bool := decide (a.known = b.known) && (!a.known || !(decide (a.day > b.day) || decide (a.day = b.day) && decide (a.min > b.min)))
/-- The pairs of two lists of one length are in order. -/
def ordered : List When → List When → Bool
  | [], [] => true
  | a :: x, b :: y => pairOk a b && ordered x y
  | _, _ => false
noncomputable def bounds (t : Term) (c : Cal) (x y : List When) : Int × Int × Bool × Int :=
  if x.length ≠ y.length then (0, 0, false, 1)
  else if (eval t c x).2.2 = 1 ∨ (eval t c y).2.2 = 1 then (0, 0, false, 1)
  else if !ordered x y then (0, 0, false, 1)
  else if (eval t c x).2.2 ≠ 0 ∨ (eval t c y).2.2 ≠ 0 then (0, 0, false, 2)
  else if !(eval t c x).2.1 || !(eval t c y).2.1 then (0, 0, false, 0)
  else ((eval t c x).1, (eval t c y).1, true, 0)

theorem isDay_iff (d : Int) : isDay d = true ↔ 0 ≤ d ∧ d ≤ 73048 := by unfold isDay; simp
theorem inRange_iff {o : Option Int} {d : Int} : inRange o = some d ↔ o = some d ∧ 0 ≤ d ∧ d ≤ 73048 := by
  cases o with
  | none => simp [inRange]
  | some x =>
    unfold inRange
    dsimp only
    split
    · rename_i h; rw [isDay_iff] at h
      constructor
      · intro e; injection e with e; subst e; exact ⟨rfl, h⟩
      · rintro ⟨e, _⟩; exact e
    · rename_i h
      constructor
      · intro e; cases e
      · rintro ⟨e, h1⟩; injection e with e; subst e; exact absurd ((isDay_iff x).2 h1) h
theorem day_rng {c : Cal} {l : List When} {t : Term} {d : Int} (h : day c l t = some d) : 0 ≤ d ∧ d ≤ 73048 := by
  rw [day_mk] at h
  split at h
  · cases h
  · exact (inRange_iff.1 h).2
theorem dayL_len {c : Cal} {l : List When} : ∀ {r : List Term} {ds : List Int}, dayL c l r = some ds → ds.length = r.length := by
  intro r
  induction r with
  | nil => intro ds h; rw [dayL] at h; injection h with h; subst h; rfl
  | cons t r ih =>
    intro ds h
    rw [dayL] at h
    split at h
    · cases h
    · split at h
      · cases h
      · rename_i ds' hd; injection h with h; subst h; rw [List.length_cons, List.length_cons, ih hd]
theorem dayL_all {c : Cal} {l : List When} : ∀ {r : List Term} {ds : List Int}, dayL c l r = some ds → ∀ (i : Nat) (d : Int), ds[i]? = some d → ∃ t, r[i]? = some t ∧ day c l t = some d := by
  intro r
  induction r with
  | nil => intro ds h i d hi; rw [dayL] at h; injection h with h; subst h; simp at hi
  | cons t r ih =>
    intro ds h i d hi
    rw [dayL] at h
    split at h
    · cases h
    · rename_i d0 h0
      split at h
      · cases h
      · rename_i ds' hd
        injection h with h; subst h
        cases i with
        | zero => simp at hi; subst hi; exact ⟨t, rfl, h0⟩
        | succ i => simpa using ih hd i d (by simpa using hi)
/-- With enough kids that have days there is a list of days. -/
theorem dayL_ex {c : Cal} {l : List When} : ∀ {r : List Term}, (∀ t ∈ r, ∃ d, day c l t = some d) → ∃ ds, dayL c l r = some ds := by
  intro r
  induction r with
  | nil => intro _; exact ⟨[], rfl⟩
  | cons t r ih =>
    intro h
    obtain ⟨d, hd⟩ := h t List.mem_cons_self
    obtain ⟨ds, hds⟩ := ih (fun u hu => h u (List.mem_cons_of_mem _ hu))
    exact ⟨d :: ds, by rw [dayL, hd, hds]⟩
end Go.Proofs.YticlmkfifpkdpaaDoor.Dl
