/-
  Include: the plain laws: parts, prefixes, parameters, copies.
-/
import Derived.Test.YticakdajhmfpoaaIncLaws
namespace Go.Proofs.Yticakdajhmfpoaa.Ic
open Rs
set_option linter.unusedVariables false
set_option linter.unusedSimpArgs false

theorem okRun_app (E : Env) : ∀ (l r a : List Tree) (s : St), okRun E a (l ++ r) s = match okRun E a l s with | some s' => okRun E (a ++ l) r s' | none => none
  | [], r, a, s => by simp [okRun]
  | x :: l, r, a, s => by
    rw [List.cons_append, okRun_cons, okRun_cons]
    by_cases h0 : (examine E a x s).1 = 0
    · rw [if_pos h0, if_pos h0, okRun_app E l r]
      cases okRun E (a ++ [x]) l (examine E a x s).2 with
      | none => rfl
      | some s' => simp
    · rw [if_neg h0, if_neg h0]
/-- A step without an error does the same from every smaller number. -/
def Ext (f : St → Int × St) : Prop := ∀ s, (f s).1 = 0 → ∃ k d, (f s).2 = ⟨s.count + k, s.out ++ d⟩ ∧ ∀ s', s'.count ≤ s.count → f s' = (0, ⟨s'.count + k, s'.out ++ d⟩)
theorem each_ext {f : Tree → St → Int × St} : ∀ l : List Tree, (∀ y ∈ l, Ext (f y)) → Ext (each f l)
  | [], _, s, h => ⟨0, [], by simp [each], fun s' _ => by simp [each]⟩
  | y :: l, hf, s, h => by
    rw [each_cons] at h
    split at h
    · next e =>
      obtain ⟨k, d, h1, h2⟩ := hf y (List.mem_cons_self ..) s e
      obtain ⟨k2, d2, h3, h4⟩ := each_ext l (fun z hz => hf z (List.mem_cons_of_mem _ hz)) _ h
      rw [h1] at h3 h4
      refine ⟨k + k2, d ++ d2, ?_, fun s' hs => ?_⟩
      · rw [each_cons, if_pos e, h1, h3]; simp [Nat.add_assoc]
      · rw [each_cons, h2 s' hs]
        simp only [if_true]
        rw [h4 _ (by dsimp only; omega)]
        simp [Nat.add_assoc]
    · next e => exact absurd h e
theorem clause_ext (E : Env) (c : Tree) : Ext (clause E c) := by
  intro s h
  unfold clause at h ⊢
  split at h
  · cases h
  · next h0 =>
    split at h
    · cases h
    · next d hd =>
      refine ⟨1, [.node d c.l], ?_, fun s' hs => ?_⟩
      · rw [if_neg h0]
      · rw [if_neg (by omega)]
theorem included_ext (E : Env) (c : Tree) (p : Int) : Ext (included E c p) := by
  intro s h
  unfold included at h ⊢
  split at h
  · cases h
  · next h0 =>
    obtain ⟨k, d, h1, h2⟩ := clause_ext E _ s h
    exact ⟨k, d, by rw [if_neg h0]; exact h1, fun s' hs => by rw [if_neg h0]; exact h2 s' hs⟩
theorem incl_ext (E : Env) (p : Int) : ∀ (n : Nat) (op : List Bytes) (x : Item), Ext (incl E p n op x)
  | 0, op, x, s, h => by cases h
  | n + 1, op, x, s, h => by
    unfold incl at h
    split at h
    · cases h
    · next h0 =>
      split at h
      · cases h
      · next t ht =>
        split at h
        · cases h
        · next h1 =>
          split at h
          · cases h
          · next h2 =>
            split at h
            · cases h
            · next h3 =>
              have hE : Ext (each (fun y s => if isClause y.h.kind then included E (inst t x y) p s else if y.h.kind = 14 then incl E p n (t.h.name :: op) (inst t x y).h s else (1, s)) t.l) := by
                refine each_ext _ fun y hy => ?_
                intro s h
                by_cases hc : isClause y.h.kind = true
                · simp only [if_pos hc] at h ⊢; exact included_ext E _ p s h
                · simp only [if_neg hc] at h ⊢
                  by_cases hk : y.h.kind = 14
                  · simp only [if_pos hk] at h ⊢; exact incl_ext E p n _ _ s h
                  · simp only [if_neg hk] at h; cases h
              obtain ⟨k, d, h4, h5⟩ := hE _ h
              have key : ∀ s', s'.count ≤ s.count → incl E p (n + 1) op x s' = each (fun y s => if isClause y.h.kind then included E (inst t x y) p s else if y.h.kind = 14 then incl E p n (t.h.name :: op) (inst t x y).h s else (1, s)) t.l ⟨s'.count + 1, s'.out⟩ := by
                intro s' hs
                conv => lhs; unfold incl
                rw [if_neg (by omega), ht]
                simp only [if_neg h1, if_neg h2, if_neg h3]
              refine ⟨1 + k, d, ?_, fun s' hs => ?_⟩
              · rw [key s (Nat.le_refl _), h4]; simp [Nat.add_assoc]
              · rw [key s' hs, h5 _ (by dsimp only; omega)]; simp [Nat.add_assoc]
theorem examine_ext (E : Env) (a : List Tree) (x : Tree) : Ext (examine E a x) := by
  intro s h
  unfold examine at h ⊢
  split at h
  · next h1 =>
    split at h
    · cases h
    · next h2 => exact ⟨0, [], by rw [if_pos h1, if_neg h2]; simp, fun s' _ => by rw [if_pos h1, if_neg h2]; simp⟩
  · next h1 =>
    split at h
    · next h2 =>
      obtain ⟨k, d, h3, h4⟩ := incl_ext E _ _ _ _ s h
      exact ⟨k, d, by rw [if_neg h1, if_pos h2]; exact h3, fun s' hs => by rw [if_neg h1, if_pos h2]; exact h4 s' hs⟩
    · next h2 =>
      split at h
      · next h3 =>
        obtain ⟨k, d, h4, h5⟩ := clause_ext E x s h
        exact ⟨k, d, by rw [if_neg h1, if_neg h2, if_pos h3]; exact h4, fun s' hs => by rw [if_neg h1, if_neg h2, if_pos h3]; exact h5 s' hs⟩
      · next h3 =>
        split at h
        · cases h
        · next h4 => exact ⟨1, [x], by rw [if_neg h1, if_neg h2, if_neg h3, if_neg h4], fun s' hs => by rw [if_neg h1, if_neg h2, if_neg h3, if_neg (by omega)]⟩
theorem rest_seen (E : Env) {x : Tree} (hd : defines x.h.kind = false) (a b : List Tree) (s : St) : examine E a x s = examine E b x s := by
  have hn : ¬ defines x.h.kind = true := by rw [hd]; decide
  unfold examine
  rw [if_neg hn, if_neg hn]
theorem defs_stay (E : Env) : ∀ (l a : List Tree) (s s2 : St), (∀ y ∈ l, defines y.h.kind = true) → okRun E a l s = some s2 → s2 = s
  | [], a, s, s2, _, h => by injection h with h; exact h.symm
  | x :: l, a, s, s2, hy, h => by
    rw [okRun_cons] at h
    split at h
    · rw [(examine_def E a (hy x (List.mem_cons_self ..)) s).1] at h
      exact defs_stay E l _ s s2 (fun z hz => hy z (List.mem_cons_of_mem _ hz)) h
    · cases h
/-- IncludeParts: the plain law. -/
theorem law_parts (s : Src) (x : Tree) (hd : defines x.h.kind = false) (hx : sizes [x] = 1) :
    ((expand { s with items := s.items ++ [x] }).2 = [] → (expand s).2 = []) ∧
    ((expand { s with items := s.items ++ [x] }).2 = [] → (expand { s with items := (s.items.filter fun y => defines y.h.kind) ++ [x] }).2 = [] ∧
      (expand { s with items := s.items ++ [x] }).1.items = (expand s).1.items ++ (expand { s with items := (s.items.filter fun y => defines y.h.kind) ++ [x] }).1.items) := by
  have key : (expand { s with items := s.items ++ [x] }).2 = [] → (expand s).2 = [] ∧ (expand { s with items := (s.items.filter fun y => defines y.h.kind) ++ [x] }).2 = [] ∧
      (expand { s with items := s.items ++ [x] }).1.items = (expand s).1.items ++ (expand { s with items := (s.items.filter fun y => defines y.h.kind) ++ [x] }).1.items := by
    intro h
    obtain ⟨hz, s', h1, h2⟩ := expand_yes h
    dsimp only at hz h1 h2
    have hnd : ([x] : List Tree).filter (fun y => defines y.h.kind) = [] := by simp [hd]
    have he : env (s.items ++ [x]) = env s.items := env_of_filter (by rw [List.filter_append, hnd, List.append_nil])
    have he2 : env ((s.items.filter fun y => defines y.h.kind) ++ [x]) = env s.items := env_of_filter (by rw [List.filter_append, hnd, List.append_nil, List.filter_filter]; simp)
    rw [sizes_app, hx] at hz
    have hsp := sizes_split s.items
    rw [he, okRun_app] at h1
    cases hr : okRun (env s.items) [] s.items ⟨0, []⟩ with
    | none => rw [hr] at h1; cases h1
    | some s1 =>
      rw [hr] at h1
      dsimp only at h1
      have ha := expand_ok s (by omega)
      rw [hr] at ha
      dsimp only at ha
      rw [okRun_cons] at h1
      split at h1
      · next h0 =>
        obtain ⟨k, d, h3, h4⟩ := examine_ext _ _ _ _ h0
        have hs' : s' = ⟨s1.count + k, s1.out ++ d⟩ := by
          rw [h3] at h1; injection h1 with h1; exact h1.symm
        have hc := expand_ok { s with items := (s.items.filter fun y => defines y.h.kind) ++ [x] } (by dsimp only; rw [sizes_app, hx]; omega)
        dsimp only at hc
        rw [he2, okRun_app] at hc
        rw [okRun_split _ _ [] [] [] _ rfl] at hr
        have hdefs : okRun (env s.items) [] (s.items.filter fun y => defines y.h.kind) ⟨0, []⟩ = some ⟨0, []⟩ := by
          cases hq : okRun (env s.items) [] (s.items.filter fun y => defines y.h.kind) ⟨0, []⟩ with
          | none => rw [hq] at hr; cases hr
          | some s2 => rw [defs_stay _ _ _ _ _ (fun y hy => (List.mem_filter.1 hy).2) hq]
        rw [hdefs] at hc
        dsimp only at hc
        rw [okRun_cons, rest_seen _ hd _ ([] ++ s.items), h4 ⟨0, []⟩ (Nat.zero_le _)] at hc
        simp only [if_true] at hc
        have hc' : expand { s with items := (s.items.filter fun y => defines y.h.kind) ++ [x] } = ({ s with items := ([] : List Tree) ++ d }, []) := hc
        rw [hc', ha, h2, hs']
        exact ⟨rfl, rfl, rfl⟩
      · cases h1
  exact ⟨fun h => (key h).1, fun h => (key h).2⟩
/-! Prefixes. -/
def Pre (p : Bytes) (pos : Int) (y : Tree) : Prop := isClause y.h.kind = true ∧ (∃ r, y.h.name = p ++ dot :: r) ∧ y.h.pos = pos ∧ y.h.name.length ≤ 24
theorem define_pre {E : Env} {p : Bytes} {pos : Int} {c d : Item} {l : List Tree} (h : define E c = some d) (hc : Pre p pos (.node c l)) : Pre p pos (.node d l) := by
  obtain ⟨_, h1, h2, h3⟩ := define_some h
  obtain ⟨g1, g2, g3, g4⟩ := hc
  refine ⟨?_, ?_, ?_, ?_⟩
  · show isClause d.kind = true; rw [h1]; exact g1
  · show ∃ r, d.name = _; rw [h2]; exact g2
  · show d.pos = _; rw [h3]; exact g3
  · show d.name.length ≤ _; rw [h2]; exact g4
theorem inst_name (t : Tree) (x : Item) (y : Tree) : (inst t x y).h.name = prefixed x.name y.h.name := by
  unfold inst
  split <;> rfl
theorem included_pre {E : Env} {p : Bytes} {pos : Int} {c : Tree} {s : St} (hk : isClause c.h.kind = true) (hn : ∃ r, c.h.name = p ++ dot :: r) (h : ∀ y ∈ s.out, Pre p pos y) : ∀ y ∈ (included E c pos s).2.out, Pre p pos y := by
  unfold included
  split
  · exact h
  · next hl =>
    unfold clause
    split
    · exact h
    · split
      · exact h
      · next d hd =>
        intro y hy
        rcases List.mem_append.1 hy with hy | hy
        · exact h y hy
        · simp only [List.mem_cons, List.not_mem_nil, or_false] at hy
          subst hy
          refine define_pre hd ⟨hk, hn, rfl, ?_⟩
          show c.h.name.length ≤ 24
          omega
theorem prefixed_pre {p a b : Bytes} (h : (∃ r, a = p ++ dot :: r) ∨ a = p) : ∃ r, prefixed a b = p ++ dot :: r := by
  rcases h with ⟨r, rfl⟩ | rfl
  · exact ⟨r ++ dot :: b, by unfold prefixed; simp⟩
  · exact ⟨b, rfl⟩
theorem incl_pre {E : Env} {p : Bytes} {pos : Int} : ∀ (n : Nat) (op : List Bytes) (x : Item) (s : St), ((∃ r, x.name = p ++ dot :: r) ∨ x.name = p) → (∀ y ∈ s.out, Pre p pos y) → ∀ y ∈ (incl E pos n op x s).2.out, Pre p pos y
  | 0, op, x, s, hx, h => h
  | n + 1, op, x, s, hx, h => by
    unfold incl
    split
    · exact h
    · split
      · exact h
      · next t ht =>
        split
        · exact h
        · split
          · exact h
          · split
            · exact h
            · refine each_inv (fun s => ∀ y ∈ s.out, Pre p pos y) _ _ h fun y hy s hs => ?_
              have hp : ∃ r, (inst t x y).h.name = p ++ dot :: r := by rw [inst_name]; exact prefixed_pre hx
              split
              · next hc => exact included_pre (by rw [inst_kind]; exact hc) hp hs
              · split
                · exact incl_pre n _ _ s (.inl hp) hs
                · exact hs
/-- IncludePrefix: the plain law. -/
theorem law_prefix {s : Src} {x : Tree} {l : List Tree} (hk : x.h.kind = 14) (hl : ∀ y ∈ l, defines y.h.kind = true) (hs : s.items = x :: l) (h : (expand s).2 = []) : ∀ y ∈ (expand s).1.items, Pre x.h.name x.h.pos y := by
  obtain ⟨_, s', h1, h2⟩ := expand_yes h
  rw [h2]
  rw [hs, okRun_cons] at h1
  split at h1
  · have := defs_stay _ _ _ _ _ hl h1
    rw [this]
    have hd : ¬ defines x.h.kind = true := by rw [hk]; decide
    unfold examine
    rw [if_neg hd, if_pos hk]
    exact incl_pre _ _ _ _ (.inr rfl) (fun y hy => by simp at hy)
  · cases h1
/-! Parameters. -/
def change (f g n : Bytes) : Bytes := if n = f ∧ n ≠ [] then g else n
def rename1 (f g : Bytes) (y : Tree) : Tree :=
  let c := change f g
  if isClause y.h.kind then .node { y.h with of_ := c y.h.of_, act := c y.h.act, by_ := c y.h.by_, til := c y.h.til, unit := c y.h.unit, sum := c y.h.sum, to_ := c y.h.to_, within := { y.h.within with name := c y.h.within.name }, grace := { y.h.grace with name := c y.h.grace.name }, conds := y.h.conds.map fun k => { k with name := c k.name } } y.l
  else if y.h.kind = 14 then .node { y.h with names := y.h.names.map c } y.l else y
/-- A template with another name for a parameter. -/
def renamed (f g : Bytes) (t : Tree) : Tree := .node { t.h with names := t.h.names.map (change f g) } (t.l.map (rename1 f g))
/-- A name does not occur in a template. -/
structure Free (g : Bytes) (t : Tree) : Prop where
  names : g ∉ t.h.names
  item : ∀ y ∈ t.l, y.h.of_ ≠ g ∧ y.h.act ≠ g ∧ y.h.by_ ≠ g ∧ y.h.til ≠ g ∧ y.h.unit ≠ g ∧ y.h.sum ≠ g ∧ y.h.to_ ≠ g ∧ y.h.within.name ≠ g ∧ y.h.grace.name ≠ g ∧ (∀ n ∈ y.h.names, n ≠ g) ∧ ∀ k ∈ y.h.conds, k.name ≠ g
theorem arg_change {f g : Bytes} (hf : f ≠ []) (hg : g ≠ []) {n : Bytes} (hn : n ≠ g) : ∀ (ps as : List Bytes), g ∉ ps → arg (ps.map (change f g)) as (change f g n) = arg ps as n
  | [], _, _ => rfl
  | p :: ps, [], _ => rfl
  | p :: ps, a :: as, h => by
    simp only [List.mem_cons, not_or] at h
    have ih := arg_change hf hg hn ps as h.2
    simp only [List.map_cons, arg, ih]
    have e : (change f g n ≠ [] ∧ change f g p = change f g n) ↔ (n ≠ [] ∧ p = n) := by
      unfold change
      by_cases h1 : n = f
      · subst h1
        rw [if_pos ⟨rfl, hf⟩]
        by_cases h2 : p = n
        · subst h2; rw [if_pos ⟨rfl, hf⟩]; exact ⟨fun _ => ⟨hf, rfl⟩, fun _ => ⟨hg, rfl⟩⟩
        · rw [if_neg (fun e => h2 e.1)]; exact ⟨fun e => absurd e.2.symm h.1, fun e => absurd e.2 h2⟩
      · rw [if_neg (fun e => h1 e.1)]
        by_cases h2 : p = f
        · subst h2; rw [if_pos ⟨rfl, hf⟩]; exact ⟨fun e => absurd e.2.symm hn, fun e => absurd e.2.symm h1⟩
        · rw [if_neg (fun e => h2 e.1)]
    by_cases hc : n ≠ [] ∧ p = n
    · rw [if_pos hc, if_pos (e.2 hc)]
    · rw [if_neg hc, if_neg (fun h => hc (e.1 h))]
theorem arg_some {n : Bytes} (hn : n ≠ []) : ∀ (ps as : List Bytes), ps.length = as.length → n ∈ ps → ∃ a, arg ps as n = some a
  | [], _, _, h => by simp at h
  | p :: ps, [], h, _ => by simp at h
  | p :: ps, a :: as, h, hm => by
    unfold arg
    by_cases e : p = n
    · exact ⟨a, if_pos ⟨hn, e⟩⟩
    · rw [if_neg (fun x => e x.2)]
      rcases List.mem_cons.1 hm with h2 | h2
      · exact absurd h2.symm e
      · exact arg_some hn ps as (by simpa using h) h2
theorem repl_change {f g : Bytes} (hf : f ≠ []) (hg : g ≠ []) {n : Bytes} (hn : n ≠ g) {ps as : List Bytes} (h : g ∉ ps) (hfp : f ∈ ps) (hl : ps.length = as.length) : repl (ps.map (change f g)) as (change f g n) = repl ps as n := by
  unfold repl
  rw [arg_change hf hg hn ps as h]
  cases ha : arg ps as n with
  | some a => rfl
  | none =>
    have : n ≠ f := fun e => by
      obtain ⟨a, h2⟩ := arg_some hf ps as hl hfp
      rw [e, h2] at ha; cases ha
    unfold change
    rw [if_neg (fun e => this e.1)]
theorem rename1_hd (f g : Bytes) (y : Tree) : (rename1 f g y).h.kind = y.h.kind ∧ (rename1 f g y).h.name = y.h.name ∧ (rename1 f g y).l = y.l := by
  unfold rename1
  dsimp only
  split
  · exact ⟨rfl, rfl, rfl⟩
  · split
    · exact ⟨rfl, rfl, rfl⟩
    · exact ⟨rfl, rfl, rfl⟩
theorem local_renamed (f g : Bytes) (t : Tree) (n : Bytes) : isLocal (renamed f g t) n = isLocal t n := by
  unfold isLocal
  have e1 : ∀ m, (renamed f g t).l.any (fun y => isClause y.h.kind && decide (y.h.name = m)) = t.l.any fun y => isClause y.h.kind && decide (y.h.name = m) := fun m => by
    show (t.l.map (rename1 f g)).any _ = _
    rw [List.any_map]
    congr 1
    funext y
    simp only [Function.comp, (rename1_hd f g y).1, (rename1_hd f g y).2.1]
  have e2 : ∀ m, (renamed f g t).l.any (fun y => decide (y.h.kind = 14) && decide (y.h.name = m)) = t.l.any fun y => decide (y.h.kind = 14) && decide (y.h.name = m) := fun m => by
    show (t.l.map (rename1 f g)).any _ = _
    rw [List.any_map]
    congr 1
    funext y
    simp only [Function.comp, (rename1_hd f g y).1, (rename1_hd f g y).2.1]
  rw [e1]
  cases cut n with
  | none => rfl
  | some k => dsimp only; rw [e2]
theorem inst_renamed {f g : Bytes} (hf : f ≠ []) (hg : g ≠ []) {t : Tree} (hfr : Free g t) (hfp : f ∈ t.h.names) {x : Item} (hl : x.names.length = t.h.names.length) {y : Tree} (hy : y ∈ t.l) (hk : isClause y.h.kind = true ∨ y.h.kind = 14) : inst (renamed f g t) x (rename1 f g y) = inst t x y := by
  obtain ⟨i1, i2, i3, i4, i5, i6, i7, i8, i9, i10, i11⟩ := hfr.item y hy
  have R : ∀ {n : Bytes}, n ≠ g → repl (renamed f g t).h.names x.names (change f g n) = repl t.h.names x.names n := fun hn => repl_change hf hg hn hfr.names hfp hl.symm
  obtain ⟨yh, yl⟩ := y
  dsimp only [Tree.h, Tree.l] at i1 i2 i3 i4 i5 i6 i7 i8 i9 i10 i11 hk
  by_cases h14 : yh.kind = 14
  · have hc : ¬ isClause yh.kind = true := by rw [h14]; decide
    have e : rename1 f g (.node yh yl) = .node { yh with names := yh.names.map (change f g) } yl := (if_neg hc).trans (if_pos h14)
    have e3 : (yh.names.map (change f g)).map (repl (renamed f g t).h.names x.names) = yh.names.map (repl t.h.names x.names) := by
      rw [List.map_map]
      exact List.map_congr_left fun n hn => R (i10 n hn)
    rw [e]
    refine (if_pos h14).trans (Eq.trans ?_ (if_pos h14).symm)
    exact congrArg (fun v => Tree.node { yh with name := prefixed x.name yh.name, names := v } yl) e3
  · have hc : isClause yh.kind = true := hk.resolve_right h14
    have e : rename1 f g (.node yh yl) = .node { yh with of_ := change f g yh.of_, act := change f g yh.act, by_ := change f g yh.by_, til := change f g yh.til, unit := change f g yh.unit, sum := change f g yh.sum, to_ := change f g yh.to_, within := { yh.within with name := change f g yh.within.name }, grace := { yh.grace with name := change f g yh.grace.name }, conds := yh.conds.map fun k => { k with name := change f g k.name } } yl := if_pos hc
    have e2 : (yh.conds.map fun k => ({ k with name := change f g k.name } : Named)).map (instCond (renamed f g t) x) = yh.conds.map (instCond t x) := by
      rw [List.map_map]
      refine List.map_congr_left fun k hk2 => ?_
      have hkn := i11 k hk2
      show instCond (renamed f g t) x { k with name := change f g k.name } = _
      unfold instCond
      dsimp only
      rw [show (renamed f g t).h.names = t.h.names.map (change f g) from rfl, arg_change hf hg hkn _ _ hfr.names, local_renamed]
      cases ha : arg t.h.names x.names k.name with
      | some a => rfl
      | none =>
        have : k.name ≠ f := fun e => by
          obtain ⟨a, h2⟩ := arg_some hf _ _ hl.symm hfp
          rw [e, h2] at ha; cases ha
        have e3 : change f g k.name = k.name := by unfold change; rw [if_neg (fun e => this e.1)]
        rw [e3]
    have R1 := R i1; have R2 := R i2; have R3 := R i3; have R4 := R i4; have R5 := R i5; have R6 := R i6; have R7 := R i7; have R8 := R i8; have R9 := R i9
    rw [e]
    refine (if_neg h14).trans (Eq.trans ?_ (if_neg h14).symm)
    dsimp only [Tree.h, Tree.l] at R1 R2 R3 R4 R5 R6 R7 R8 R9 e2 ⊢
    rw [R1, R2, R3, R4, R5, R6, R7, R8, R9, e2]
end Go.Proofs.Yticakdajhmfpoaa.Ic
