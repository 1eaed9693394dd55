/-
  Include: the plain laws: what a run without faults is; plain sources; later definitions; parts.
-/
import Derived.Test.YticakdajhmfpoaaIncPlain
namespace Go.Proofs.Yticakdajhmfpoaa.Ic
open Rs
set_option linter.unusedVariables false
set_option linter.unusedSimpArgs false

theorem each_cons (f : Tree → St → Int × St) (y : Tree) (l : List Tree) (s : St) : each f (y :: l) s = if (f y s).1 = 0 then each f l (f y s).2 else f y s := rfl
/-- What holds ahead and is kept by each step holds behind. -/
theorem each_inv {f : Tree → St → Int × St} (P : St → Prop) : ∀ (l : List Tree) (s : St), P s → (∀ y ∈ l, ∀ s, P s → P (f y s).2) → P (each f l s).2
  | [], s, h, _ => h
  | y :: l, s, h, hf => by
    rw [each_cons]
    split
    · exact each_inv P l _ (hf y (List.mem_cons_self ..) s h) (fun z hz => hf z (List.mem_cons_of_mem _ hz))
    · exact hf y (List.mem_cons_self ..) s h
theorem each_ok {f : Tree → St → Int × St} (P : St → Prop) : ∀ (l : List Tree) (s : St), P s → (∀ y ∈ l, ∀ s, P s → (f y s).1 = 0 → P (f y s).2) → (each f l s).1 = 0 → P (each f l s).2
  | [], s, h, _, _ => h
  | y :: l, s, h, hf, h0 => by
    rw [each_cons] at h0 ⊢
    split at h0
    · next e => rw [if_pos e]; exact each_ok P l _ (hf y (List.mem_cons_self ..) s h e) (fun z hz => hf z (List.mem_cons_of_mem _ hz)) h0
    · next e => exact absurd h0 e
/-- A clause without names of definitions. -/
def Plain (c : Item) : Prop := c.within.name = [] ∧ c.grace.name = [] ∧ c.sum = []
def Good (x : Tree) : Prop := defines x.h.kind = false ∧ x.h.kind ≠ 14 ∧ (isClause x.h.kind = true → Plain x.h)
theorem span_plain {E : Env} {s w : Span} (h : defSpan E s = some w) : w.name = [] := by
  unfold defSpan at h
  split at h
  · next e => injection h with h; rw [← h]; exact e
  · cases h2 : E.span s.name with
    | none => rw [h2] at h; cases h
    | some d => rw [h2] at h; injection h with h; rw [← h]
theorem define_some {E : Env} {c d : Item} (h : define E c = some d) : Plain d ∧ d.kind = c.kind ∧ d.name = c.name ∧ d.pos = c.pos := by
  unfold define at h
  split at h
  · cases h
  · next w hw =>
    split at h
    · cases h
    · next g hg =>
      unfold defSum at h
      split at h
      · next e => injection h with h; subst h; exact ⟨⟨span_plain hw, span_plain hg, e⟩, rfl, rfl, rfl⟩
      · dsimp only at h
        cases h2 : E.sum c.sum with
        | none => rw [h2] at h; cases h
        | some m => rw [h2] at h; injection h with h; subst h; exact ⟨⟨span_plain hw, span_plain hg, rfl⟩, rfl, rfl, rfl⟩
theorem define_plain {E : Env} {c : Item} (h : Plain c) : define E c = some c := by
  obtain ⟨h1, h2, h3⟩ := h
  unfold define defSpan
  rw [if_pos h1, if_pos h2]
  unfold defSum
  exact if_pos h3
theorem clause_not {k : Int} (h : isClause k = true) : defines k = false ∧ k ≠ 14 := by
  rcases clause_cases h with rfl | rfl | rfl | rfl <;> exact ⟨rfl, by decide⟩
/-- What the steps keep. -/
def Inv (s : St) : Prop := (∀ x ∈ s.out, Good x) ∧ s.out.length ≤ s.count
theorem Inv.up {s : St} (h : Inv s) : Inv ⟨s.count + 1, s.out⟩ := ⟨h.1, Nat.le_succ_of_le h.2⟩
theorem Inv.add {s : St} (h : Inv s) {x : Tree} (hx : Good x) : Inv ⟨s.count + 1, s.out ++ [x]⟩ := by
  refine ⟨fun y hy => ?_, by rw [List.length_append]; exact Nat.succ_le_succ h.2⟩
  rcases List.mem_append.1 hy with hy | hy
  · exact h.1 y hy
  · simp only [List.mem_cons, List.not_mem_nil, or_false] at hy; subst hy; exact hx
theorem clause_inv {E : Env} {c : Tree} {s : St} (hc : isClause c.h.kind = true) (h : Inv s) : Inv (clause E c s).2 := by
  unfold clause
  split
  · exact h.up
  · split
    · exact h.up
    · next d hd =>
      obtain ⟨h1, h2, _⟩ := define_some hd
      refine h.add ⟨?_, ?_, fun _ => h1⟩
      · show defines d.kind = false; rw [h2]; exact (clause_not hc).1
      · show d.kind ≠ 14; rw [h2]; exact (clause_not hc).2
theorem included_inv {E : Env} {c : Tree} {p : Int} {s : St} (hc : isClause c.h.kind = true) (h : Inv s) : Inv (included E c p s).2 := by
  unfold included
  split
  · exact h.up
  · exact clause_inv (c := .node { c.h with pos := p } c.l) hc h
theorem inst_kind (t : Tree) (x : Item) (y : Tree) : (inst t x y).h.kind = y.h.kind := by
  unfold inst
  split <;> rfl
theorem incl_inv {E : Env} {p : Int} : ∀ (n : Nat) (op : List Bytes) (x : Item) (s : St), Inv s → Inv (incl E p n op x s).2
  | 0, op, x, s, h => h.up
  | n + 1, op, x, s, h => by
    unfold incl
    split
    · exact h.up
    · split
      · exact h.up
      · next t ht =>
        split
        · exact h.up
        · split
          · exact h.up
          · split
            · exact h.up
            · refine each_inv Inv _ _ h.up fun y hy s hs => ?_
              split
              · next hc => exact included_inv (by rw [inst_kind]; exact hc) hs
              · split
                · exact incl_inv n _ _ s hs
                · exact hs
theorem examine_inv {E : Env} {seen : List Tree} {x : Tree} {s : St} (h : Inv s) : Inv (examine E seen x s).2 := by
  unfold examine
  split
  · split <;> exact h
  · next h1 =>
    split
    · exact incl_inv _ _ _ s h
    · next h2 =>
      split
      · next h3 => exact clause_inv h3 h
      · next h3 =>
        split
        · exact h.up
        · exact h.add ⟨by simpa using h1, h2, fun h => absurd h h3⟩
/-- Without an error the number is within the limit. -/
theorem clause_le {E : Env} {c : Tree} {s : St} (h : (clause E c s).1 = 0) : (clause E c s).2.count ≤ 600 := by
  unfold clause at h ⊢
  split at h
  · cases h
  · next h1 =>
    rw [if_neg h1]
    split at h
    · cases h
    · next d hd => dsimp only; omega
theorem included_le {E : Env} {c : Tree} {p : Int} {s : St} (h : (included E c p s).1 = 0) : (included E c p s).2.count ≤ 600 := by
  unfold included at h ⊢
  split at h
  · cases h
  · next h1 => rw [if_neg h1]; exact clause_le h
theorem incl_le {E : Env} {p : Int} : ∀ (n : Nat) (op : List Bytes) (x : Item) (s : St), (incl E p n op x s).1 = 0 → (incl E p n op x s).2.count ≤ 600
  | 0, op, x, s, h => by cases h
  | n + 1, op, x, s, h => by
    unfold incl at h ⊢
    split at h
    · cases h
    · next h0 =>
      rw [if_neg h0]
      split at h
      · cases h
      · next t ht =>
        split at h
        · cases h
        · next h1 =>
          rw [if_neg h1]
          split at h
          · cases h
          · next h2 =>
            rw [if_neg h2]
            split at h
            · cases h
            · next h3 =>
              rw [if_neg h3]
              refine each_ok (fun s => s.count ≤ 600) _ _ (by dsimp only; omega) (fun y hy s hs h4 => ?_) h
              split at h4
              · next hc => rw [if_pos hc]; exact included_le h4
              · next hc =>
                rw [if_neg hc]
                split at h4
                · next hk => rw [if_pos hk]; exact incl_le n _ _ s h4
                · cases h4
theorem examine_le {E : Env} {seen : List Tree} {x : Tree} {s : St} (hs : s.count ≤ 600) (h : (examine E seen x s).1 = 0) : (examine E seen x s).2.count ≤ 600 := by
  unfold examine at h ⊢
  split at h
  · next h1 => rw [if_pos h1]; split <;> exact hs
  · next h1 =>
    rw [if_neg h1]
    split at h
    · next h2 => rw [if_pos h2]; exact incl_le _ _ _ s h
    · next h2 =>
      rw [if_neg h2]
      split at h
      · next h3 => rw [if_pos h3]; exact clause_le h
      · next h3 =>
        rw [if_neg h3]
        split at h
        · cases h
        · next h4 => rw [if_neg h4]; dsimp only; omega
/-- A run without faults. -/
def okRun (E : Env) : List Tree → List Tree → St → Option St
  | _, [], s => some s
  | seen, x :: l, s => if (examine E seen x s).1 = 0 then okRun E (seen ++ [x]) l (examine E seen x s).2 else none
theorem okRun_cons (E : Env) (a : List Tree) (x : Tree) (l : List Tree) (s : St) : okRun E a (x :: l) s = if (examine E a x s).1 = 0 then okRun E (a ++ [x]) l (examine E a x s).2 else none := rfl
theorem run_faults (E : Env) : ∀ (l seen : List Tree) (s : St) (f : List Fault), f ≠ [] → (run E seen l s f).2 ≠ []
  | [], seen, s, f, h => h
  | x :: l, seen, s, f, h => by
    have h2 : (if (examine E seen x s).1 = 0 then f else f ++ [⟨(examine E seen x s).1, x.h.pos⟩]) ≠ [] := by
      split
      · exact h
      · simp
    unfold run
    dsimp only
    split
    · exact h2
    · exact run_faults E l _ _ _ h2
theorem run_ok (E : Env) : ∀ (l seen : List Tree) (s : St), s.count ≤ 600 → match okRun E seen l s with | some s' => run E seen l s [] = (s', []) | none => (run E seen l s []).2 ≠ []
  | [], seen, s, h => rfl
  | x :: l, seen, s, h => by
    unfold okRun run
    by_cases h0 : (examine E seen x s).1 = 0
    · have h1 := examine_le h h0
      simp only [if_pos h0]
      rw [if_neg (by omega)]
      exact run_ok E l _ _ h1
    · simp only [if_neg h0]
      split
      · simp
      · exact run_faults E l _ _ _ (by simp)
theorem expand_ok (s : Src) (hs : sizes s.items ≤ 600) : match okRun (env s.items) [] s.items ⟨0, []⟩ with | some s' => expand s = ({ s with items := s'.out }, []) | none => (expand s).2 ≠ [] ∧ (expand s).1 = zero := by
  have h := run_ok (env s.items) s.items [] ⟨0, []⟩ (Nat.zero_le _)
  unfold expand
  rw [if_neg (by omega)]
  cases hk : okRun (env s.items) [] s.items ⟨0, []⟩ with
  | some s' =>
    rw [hk] at h
    dsimp only at h ⊢
    rw [h]
    rfl
  | none =>
    rw [hk] at h
    dsimp only at h ⊢
    rw [if_neg h]
    exact ⟨h, rfl⟩
theorem expand_big (s : Src) (hs : 600 < sizes s.items) : expand s = (zero, [⟨3, 0⟩]) := by
  unfold expand
  rw [if_pos hs]
theorem expand_zero (s : Src) (h : (expand s).2 ≠ []) : (expand s).1 = zero := by
  by_cases hs : 600 < sizes s.items
  · rw [expand_big s hs]
  · have := expand_ok s (by omega)
    cases hk : okRun (env s.items) [] s.items ⟨0, []⟩ with
    | some s' => rw [hk] at this; dsimp only at this; rw [this] at h; exact absurd rfl h
    | none => rw [hk] at this; exact this.2
/-- The run of a source without faults. -/
theorem expand_yes {s : Src} (h : (expand s).2 = []) : sizes s.items ≤ 600 ∧ ∃ s', okRun (env s.items) [] s.items ⟨0, []⟩ = some s' ∧ expand s = ({ s with items := s'.out }, []) := by
  by_cases hs : 600 < sizes s.items
  · rw [expand_big s hs] at h; cases h
  · refine ⟨by omega, ?_⟩
    have := expand_ok s (by omega)
    cases hk : okRun (env s.items) [] s.items ⟨0, []⟩ with
    | some s' => rw [hk] at this; exact ⟨s', rfl, this⟩
    | none => rw [hk] at this; exact absurd h this.1
theorem okRun_inv {E : Env} : ∀ (l seen : List Tree) (s s' : St), okRun E seen l s = some s' → Inv s → s.count ≤ 600 → Inv s' ∧ s'.count ≤ 600
  | [], seen, s, s', h, h1, h2 => by injection h with h; subst h; exact ⟨h1, h2⟩
  | x :: l, seen, s, s', h, h1, h2 => by
    unfold okRun at h
    split at h
    · next e => exact okRun_inv l _ _ s' h (examine_inv h1) (examine_le h2 e)
    · cases h
/-- A plain list is taken as it is. -/
theorem okRun_good {E : Env} : ∀ (l seen : List Tree) (s : St), (∀ x ∈ l, Good x) → s.count + l.length ≤ 600 → okRun E seen l s = some ⟨s.count + l.length, s.out ++ l⟩
  | [], seen, s, h, h2 => by simp [okRun]
  | x :: l, seen, s, h, h2 => by
    rw [List.length_cons] at h2
    obtain ⟨g1, g2, g3⟩ := h x (List.mem_cons_self ..)
    have he : examine E seen x s = (0, ⟨s.count + 1, s.out ++ [x]⟩) := by
      unfold examine
      rw [if_neg (by rw [g1]; decide), if_neg g2]
      split
      · next hc =>
        unfold clause
        rw [if_neg (by omega), define_plain (g3 hc)]
        cases x; rfl
      · rw [if_neg (by omega)]
    unfold okRun
    rw [he]
    simp only [if_true]
    rw [okRun_good l _ _ (fun y hy => h y (List.mem_cons_of_mem _ hy)) (by dsimp only; omega)]
    simp only [List.length_cons, List.append_assoc, List.cons_append, List.nil_append, Option.some.injEq, St.mk.injEq, and_true]
    omega
/-- IncludePlain: the plain law. -/
theorem law_plain {s : Src} (h : (expand s).2 = []) : (expand s).1.name = s.name ∧ (expand s).1.frm = s.frm ∧ (expand s).1.days = s.days ∧ (∀ x ∈ (expand s).1.items, Good x) ∧ (expand s).1.items.length ≤ 600 ∧
    (sizes (expand s).1.items ≤ 600 → expand (expand s).1 = ((expand s).1, [])) := by
  obtain ⟨_, s', h1, h2⟩ := expand_yes h
  obtain ⟨⟨h3, h4⟩, h5⟩ := okRun_inv _ _ _ _ h1 ⟨fun x hx => by simp at hx, Nat.le_refl _⟩ (Nat.zero_le _)
  rw [h2]
  refine ⟨rfl, rfl, rfl, h3, Nat.le_trans h4 h5, fun h6 => ?_⟩
  have h7 := expand_ok { s with items := s'.out } h6
  have h8 := okRun_good (E := env s'.out) s'.out [] ⟨0, []⟩ h3 (by dsimp only; omega)
  dsimp only at h7
  rw [h8] at h7
  simpa using h7
/-! Later definitions. -/
theorem first_filter {k : Int} (hk : defines k = true) (n : Bytes) : ∀ l : List Tree, first (l.filter fun x => defines x.h.kind) k n = first l k n
  | [] => rfl
  | x :: l => by
    have ih := first_filter hk n l
    unfold first at ih ⊢
    by_cases hd : defines x.h.kind = true
    · rw [List.filter_cons, if_pos hd, List.find?_cons, List.find?_cons, ih]
    · rw [List.filter_cons, if_neg hd, List.find?_cons, ih]
      have : decide (x.h.kind = k ∧ x.h.name = n) = false := by
        simp only [decide_eq_false_iff_not, not_and]
        intro e; rw [e] at hd; exact absurd hk hd
      rw [this]
theorem env_filter (l : List Tree) : env (l.filter fun x => defines x.h.kind) = env l := by
  unfold env
  congr 1
  · funext n; exact first_filter rfl n l
  · funext n; rw [first_filter rfl n l]
  · funext n; rw [first_filter rfl n l]
theorem env_of_filter {a b : List Tree} (h : a.filter (fun x => defines x.h.kind) = b.filter fun x => defines x.h.kind) : env a = env b := by
  rw [← env_filter a, h, env_filter b]
theorem seen_filter {k : Int} {n : Bytes} {a b : List Tree} (hk : defines k = true) (h : a.filter (fun x => defines x.h.kind) = b.filter fun x => defines x.h.kind) : first a k n = first b k n := by
  rw [← first_filter hk n a, h, first_filter hk n b]
theorem examine_seen (E : Env) {a b : List Tree} (h : a.filter (fun x => defines x.h.kind) = b.filter fun x => defines x.h.kind) (x : Tree) (s : St) : examine E a x s = examine E b x s := by
  unfold examine
  by_cases hd : defines x.h.kind = true
  · rw [if_pos hd, if_pos hd, seen_filter hd h]
  · rw [if_neg hd, if_neg hd]
theorem examine_def (E : Env) (seen : List Tree) {x : Tree} (hd : defines x.h.kind = true) (s : St) : (examine E seen x s).2 = s ∧ ∀ s', (examine E seen x s).1 = (examine E seen x s').1 := by
  unfold examine
  rw [if_pos hd]
  constructor
  · split <;> rfl
  · intro s'; rw [if_pos hd]; split <;> rfl
/-- The run splits: the definitions by themselves, and the rest by itself. -/
theorem okRun_split (E : Env) : ∀ (l a b c : List Tree) (s : St), a.filter (fun x => defines x.h.kind) = b.filter (fun x => defines x.h.kind) →
    okRun E a l s = match okRun E b (l.filter fun x => defines x.h.kind) ⟨0, []⟩ with | some _ => okRun E c (l.filter fun x => !defines x.h.kind) s | none => none
  | [], a, b, c, s, h => rfl
  | x :: l, a, b, c, s, h => by
    have hab : (a ++ [x]).filter (fun x => defines x.h.kind) = (b ++ if defines x.h.kind then [x] else []).filter (fun x => defines x.h.kind) := by
      rw [List.filter_append, List.filter_append, h]
      congr 1
      by_cases hd : defines x.h.kind = true
      · rw [if_pos hd]
      · rw [if_neg hd]; simp [hd]
    by_cases hd : defines x.h.kind = true
    · have e1 := examine_def E a hd
      have e2 := examine_def E b hd
      rw [if_pos hd] at hab
      rw [List.filter_cons, if_pos hd, List.filter_cons, if_neg (by simp [hd])]
      rw [okRun_cons E a x l s, okRun_cons E b x _ ⟨0, []⟩, (e1 s).1, (e2 ⟨0, []⟩).1, examine_seen E h x s, (e2 s).2 ⟨0, []⟩]
      by_cases h0 : (examine E b x ⟨0, []⟩).1 = 0
      · rw [if_pos h0, if_pos h0]
        exact okRun_split E l _ _ c s hab
      · rw [if_neg h0, if_neg h0]
    · rw [if_neg hd, List.append_nil] at hab
      rw [List.filter_cons, if_neg hd, List.filter_cons, if_pos (by simp [hd])]
      have hb : ∀ a : List Tree, examine E a x s = examine E [] x s := fun a => by
        unfold examine
        rw [if_neg hd, if_neg hd]
      rw [okRun_cons E a x l s, okRun_cons E c x _ s, hb a]
      by_cases h0 : (examine E [] x s).1 = 0
      · rw [if_pos h0, okRun_split E l _ _ (c ++ [x]) _ hab]
        cases okRun E b (l.filter fun x => defines x.h.kind) ⟨0, []⟩ with
        | none => rfl
        | some _ => dsimp only; rw [hb c, if_pos h0]
      · rw [if_neg h0]
        cases okRun E b (l.filter fun x => defines x.h.kind) ⟨0, []⟩ with
        | none => rfl
        | some _ => dsimp only; rw [hb c, if_neg h0]
def later (s : Src) : Src := { s with items := (s.items.filter fun x => !defines x.h.kind) ++ s.items.filter fun x => defines x.h.kind }
theorem sizes_split : ∀ l : List Tree, sizes (l.filter fun x => !defines x.h.kind) + sizes (l.filter fun x => defines x.h.kind) = sizes l
  | [] => rfl
  | x :: l => by
    have ih := sizes_split l
    by_cases hd : defines x.h.kind = true
    · rw [List.filter_cons, if_neg (by simp [hd]), List.filter_cons, if_pos hd, sizes_cons, sizes_cons]; omega
    · rw [List.filter_cons, if_pos (by simp [hd]), List.filter_cons, if_neg hd, sizes_cons, sizes_cons]; omega
theorem later_defs (s : Src) : (later s).items.filter (fun x => defines x.h.kind) = s.items.filter fun x => defines x.h.kind := by
  unfold later
  rw [List.filter_append, List.filter_filter, List.filter_filter]
  simp
theorem later_rest (s : Src) : (later s).items.filter (fun x => !defines x.h.kind) = s.items.filter fun x => !defines x.h.kind := by
  unfold later
  rw [List.filter_append, List.filter_filter, List.filter_filter]
  simp
/-- IncludeLater: the plain law. -/
theorem law_later (s : Src) : ((expand s).2 = [] ↔ (expand (later s)).2 = []) ∧ ((expand s).2 = [] → expand (later s) = expand s) := by
  have hz : sizes (later s).items = sizes s.items := by
    show sizes (_ ++ _) = _
    rw [sizes_app]; exact sizes_split _
  by_cases hs : 600 < sizes s.items
  · rw [expand_big s hs, expand_big (later s) (by omega)]
    exact ⟨Iff.rfl, fun _ => rfl⟩
  · have h1 := expand_ok s (by omega)
    have h2 := expand_ok (later s) (by omega)
    have he : env (later s).items = env s.items := env_of_filter (later_defs s)
    rw [he, okRun_split _ _ [] [] [] _ rfl, later_defs, later_rest] at h2
    rw [okRun_split _ _ [] [] [] _ rfl] at h1
    cases hd : okRun (env s.items) [] (s.items.filter fun x => defines x.h.kind) ⟨0, []⟩ with
    | none =>
      rw [hd] at h1 h2
      dsimp only at h1 h2
      exact ⟨⟨fun h => absurd h h1.1, fun h => absurd h h2.1⟩, fun h => absurd h h1.1⟩
    | some _ =>
      rw [hd] at h1 h2
      dsimp only at h1 h2
      cases hr : okRun (env s.items) [] (s.items.filter fun x => !defines x.h.kind) ⟨0, []⟩ with
      | none =>
        rw [hr] at h1 h2
        dsimp only at h1 h2
        exact ⟨⟨fun h => absurd h h1.1, fun h => absurd h h2.1⟩, fun h => absurd h h1.1⟩
      | some s' =>
        rw [hr] at h1 h2
        dsimp only at h1 h2
        rw [h1, h2]
        exact ⟨Iff.rfl, fun _ => rfl⟩
end Go.Proofs.Yticakdajhmfpoaa.Ic
