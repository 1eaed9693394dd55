/-
  Include: the plain laws: parameters (the whole run), copies.
-/
import Derived.Test.YticakdajhmfpoaaIncLaws2
namespace Go.Proofs.Yticakdajhmfpoaa.Ic
open Rs
set_option linter.unusedVariables false
set_option linter.unusedSimpArgs false

/-- A template, and the same with another name for a parameter. -/
def RT (f g : Bytes) (t t' : Tree) : Prop := t' = t ∨ (t' = renamed f g t ∧ t.h.kind = 13 ∧ Free g t ∧ f ∈ t.h.names)
def Rel (f g : Bytes) : List Tree → List Tree → Prop
  | [], [] => True
  | x :: l, y :: m => RT f g x y ∧ Rel f g l m
  | _, _ => False
theorem Rel.refl (f g : Bytes) : ∀ l, Rel f g l l
  | [] => trivial
  | x :: l => ⟨.inl rfl, Rel.refl f g l⟩
theorem Rel.set {f g : Bytes} {t : Tree} (hk : t.h.kind = 13) (hf : Free g t) (hp : f ∈ t.h.names) : ∀ (l : List Tree) (k : Nat), l[k]? = some t → Rel f g l (l.set k (renamed f g t))
  | [], k, h => by simp at h
  | x :: l, 0, h => by
    simp only [List.getElem?_cons_zero, Option.some.injEq] at h
    subst h
    exact ⟨.inr ⟨rfl, hk, hf, hp⟩, Rel.refl f g l⟩
  | x :: l, k + 1, h => ⟨.inl rfl, Rel.set hk hf hp l k (by simpa using h)⟩
theorem RT.hd {f g : Bytes} {x y : Tree} (h : RT f g x y) : y.h.kind = x.h.kind ∧ y.h.name = x.h.name ∧ y.h.pos = x.h.pos := by
  rcases h with rfl | ⟨rfl, _⟩ <;> exact ⟨rfl, rfl, rfl⟩
theorem first_cons (x : Tree) (l : List Tree) (k : Int) (n : Bytes) : first (x :: l) k n = if x.h.kind = k ∧ x.h.name = n then some x else first l k n := by
  unfold first
  rw [List.find?_cons]
  by_cases h : x.h.kind = k ∧ x.h.name = n
  · rw [if_pos h]; simp [h]
  · rw [if_neg h]; simp only [decide_eq_false h]
theorem first_rel {f g : Bytes} (k : Int) (n : Bytes) : ∀ (l m : List Tree), Rel f g l m → (first l k n = none ∧ first m k n = none) ∨ ∃ x y, first l k n = some x ∧ first m k n = some y ∧ RT f g x y ∧ x.h.kind = k
  | [], [], _ => .inl ⟨rfl, rfl⟩
  | x :: l, y :: m, h => by
    obtain ⟨e1, e2, _⟩ := h.1.hd
    rw [first_cons, first_cons, e1, e2]
    by_cases hc : x.h.kind = k ∧ x.h.name = n
    · rw [if_pos hc, if_pos hc]; exact .inr ⟨x, y, rfl, rfl, h.1, hc.1⟩
    · rw [if_neg hc, if_neg hc]; exact first_rel k n l m h.2
  | [], y :: m, h => h.elim
  | x :: l, [], h => h.elim
theorem first_eq {f g : Bytes} {k : Int} (hk : k ≠ 13) (n : Bytes) {l m : List Tree} (h : Rel f g l m) : first m k n = first l k n := by
  rcases first_rel k n l m h with ⟨h1, h2⟩ | ⟨x, y, h1, h2, h3, h4⟩
  · rw [h1, h2]
  · rcases h3 with rfl | ⟨_, h5, _⟩
    · rw [h1, h2]
    · exact absurd (h4.symm.trans h5) hk
theorem first_some {f g : Bytes} (k : Int) (n : Bytes) {l m : List Tree} (h : Rel f g l m) : (first m k n).isSome = (first l k n).isSome := by
  rcases first_rel k n l m h with ⟨h1, h2⟩ | ⟨x, y, h1, h2, h3, h4⟩ <;> rw [h1, h2] <;> rfl
structure ERel (f g : Bytes) (E E' : Env) : Prop where
  span : E'.span = E.span
  sum : E'.sum = E.sum
  tmpl : ∀ n, (E.tmpl n = none ∧ E'.tmpl n = none) ∨ ∃ x y, E.tmpl n = some x ∧ E'.tmpl n = some y ∧ RT f g x y
theorem env_rel {f g : Bytes} {l m : List Tree} (h : Rel f g l m) : ERel f g (env l) (env m) := by
  refine ⟨?_, ?_, fun n => ?_⟩
  · funext n; show (first m 6 n).map _ = (first l 6 n).map _; rw [first_eq (by decide) n h]
  · funext n; show (first m 7 n).map _ = (first l 7 n).map _; rw [first_eq (by decide) n h]
  · rcases first_rel 13 n l m h with h1 | ⟨x, y, h1, h2, h3, _⟩
    · exact .inl h1
    · exact .inr ⟨x, y, h1, h2, h3⟩
theorem clause_rel {f g : Bytes} {E E' : Env} (h : ERel f g E E') : clause E' = clause E := by
  funext c s
  have : define E' = define E := by
    funext c
    unfold define defSpan defSum
    rw [h.span, h.sum]
  unfold clause
  rw [this]
theorem included_rel {f g : Bytes} {E E' : Env} (h : ERel f g E E') : included E' = included E := by
  funext c p s
  unfold included
  rw [clause_rel h]
theorem each_map {F G : Tree → St → Int × St} {r : Tree → Tree} : ∀ (l : List Tree) (s : St), (∀ y ∈ l, ∀ s, F (r y) s = G y s) → each F (l.map r) s = each G l s
  | [], s, _ => rfl
  | y :: l, s, h => by
    rw [List.map_cons, each_cons, each_cons, h y (List.mem_cons_self ..)]
    split
    · exact each_map l _ (fun z hz => h z (List.mem_cons_of_mem _ hz))
    · rfl
theorem each_congr {F G : Tree → St → Int × St} (l : List Tree) (s : St) (h : ∀ y ∈ l, ∀ s, F y s = G y s) : each F l s = each G l s := by
  have := each_map (r := id) l s h
  rwa [List.map_id] at this
theorem incl_rel {f g : Bytes} (hf : f ≠ []) (hg : g ≠ []) {E E' : Env} (h : ERel f g E E') (p : Int) : ∀ (n : Nat) (op : List Bytes) (x : Item) (s : St), incl E' p n op x s = incl E p n op x s
  | 0, op, x, s => rfl
  | n + 1, op, x, s => by
    unfold incl
    rcases h.tmpl x.of_ with ⟨h1, h2⟩ | ⟨t, t', h1, h2, h3⟩
    · rw [h1, h2]
    · rw [h1, h2, included_rel h]
      dsimp only
      rcases h3 with rfl | ⟨rfl, hk, hfr, hp⟩
      · split
        · rfl
        · split
          · rfl
          · split
            · rfl
            · split
              · rfl
              · refine each_congr _ _ fun y hy s => ?_
                split
                · rfl
                · split
                  · exact incl_rel hf hg h p n _ _ s
                  · rfl
      · have e1 : (renamed f g t).h.names.length = t.h.names.length := by show (t.h.names.map _).length = _; rw [List.length_map]
        have e2 : (renamed f g t).h.name = t.h.name := rfl
        rw [e1, e2]
        split
        · rfl
        · split
          · rfl
          · next hl =>
            split
            · rfl
            · split
              · rfl
              · have hl' : x.names.length = t.h.names.length := by simpa using hl
                show each _ (t.l.map (rename1 f g)) _ = _
                refine each_map _ _ fun y hy s => ?_
                rw [(rename1_hd f g y).1]
                by_cases hc : isClause y.h.kind = true
                · rw [if_pos hc, if_pos hc, inst_renamed hf hg hfr hp hl' hy (.inl hc)]
                · rw [if_neg hc, if_neg hc]
                  by_cases h14 : y.h.kind = 14
                  · rw [if_pos h14, if_pos h14, inst_renamed hf hg hfr hp hl' hy (.inr h14)]
                    exact incl_rel hf hg h p n _ _ s
                  · rw [if_neg h14, if_neg h14]
theorem twins_change {f g : Bytes} : ∀ l : List Bytes, g ∉ l → (∀ n ∈ l, n ≠ [] ∨ f ≠ []) → twins (l.map (change f g)) = twins l
  | [], _, _ => rfl
  | x :: l, h, hf => by
    simp only [List.mem_cons, not_or] at h
    have ih := twins_change l h.2 (fun n hn => hf n (List.mem_cons_of_mem _ hn))
    have inj : ∀ a b : Bytes, a ≠ g → b ≠ g → (change f g a = change f g b ↔ a = b) := by
      intro a b ha hb
      unfold change
      by_cases h1 : a = f ∧ a ≠ [] <;> by_cases h2 : b = f ∧ b ≠ []
      · rw [if_pos h1, if_pos h2, h1.1, h2.1]; simp
      · rw [if_pos h1, if_neg h2]
        exact ⟨fun e => absurd e.symm hb, fun e => absurd (e ▸ h1) h2⟩
      · rw [if_neg h1, if_pos h2]
        exact ⟨fun e => absurd e ha, fun e => absurd (e ▸ h2) h1⟩
      · rw [if_neg h1, if_neg h2]
    have e : ∀ m : List Bytes, g ∉ m → ((m.map (change f g)).contains (change f g x)) = m.contains x := by
      intro m hm
      rw [Bool.eq_iff_iff, List.contains_iff_mem, List.contains_iff_mem, List.mem_map]
      constructor
      · rintro ⟨y, hy, e⟩
        have := (inj y x (fun e => hm (e ▸ hy)) (fun e => h.1 e.symm)).1 e
        exact this ▸ hy
      · intro hx; exact ⟨x, hx, rfl⟩
    simp only [List.map_cons, twins, ih, e l h.2]
theorem examine_rel {f g : Bytes} (hf : f ≠ []) (hg : g ≠ []) {E E' : Env} (h : ERel f g E E') {a b : List Tree} (hab : Rel f g a b) {x y : Tree} (hxy : RT f g x y) (s : St) : examine E' b y s = examine E a x s := by
  obtain ⟨e1, e2, e3⟩ := hxy.hd
  unfold examine
  rw [e1, e2, first_some _ _ hab, clause_rel h]
  rcases hxy with rfl | ⟨rfl, hk, hfr, hp⟩
  · rw [incl_rel hf hg h]
  · have hd : defines x.h.kind = true := by rw [hk]; decide
    rw [if_pos hd, if_pos hd]
    have : twins (renamed f g x).h.names = twins x.h.names := twins_change _ hfr.names (fun n _ => .inr hf)
    rw [this]
theorem Rel.snoc {f g : Bytes} : ∀ {a b : List Tree} {x y : Tree}, Rel f g a b → RT f g x y → Rel f g (a ++ [x]) (b ++ [y])
  | [], [], x, y, _, h => ⟨h, trivial⟩
  | u :: a, v :: b, x, y, h, h2 => ⟨h.1, Rel.snoc h.2 h2⟩
  | [], v :: b, x, y, h, _ => h.elim
  | u :: a, [], x, y, h, _ => h.elim
theorem run_rel {f g : Bytes} (hf : f ≠ []) (hg : g ≠ []) {E E' : Env} (h : ERel f g E E') : ∀ (l m a b : List Tree) (s : St) (q : List Fault), Rel f g l m → Rel f g a b → run E' b m s q = run E a l s q
  | [], [], a, b, s, q, _, _ => rfl
  | x :: l, y :: m, a, b, s, q, h1, h2 => by
    unfold run
    rw [examine_rel hf hg h h2 h1.1, h1.1.hd.2.2]
    dsimp only
    split
    · rfl
    · exact run_rel hf hg h l m _ _ _ _ h1.2 (h2.snoc h1.1)
  | [], y :: m, a, b, s, q, h, _ => h.elim
  | x :: l, [], a, b, s, q, h, _ => h.elim
theorem sizes_rename (f g : Bytes) : ∀ l : List Tree, sizes (l.map (rename1 f g)) = sizes l
  | [] => rfl
  | x :: l => by rw [List.map_cons, sizes_cons, sizes_cons, (rename1_hd f g x).2.2, sizes_rename f g l]
theorem sizes_rel {f g : Bytes} : ∀ {l m : List Tree}, Rel f g l m → sizes m = sizes l
  | [], [], _ => rfl
  | x :: l, y :: m, h => by
    rw [sizes_cons, sizes_cons, sizes_rel h.2]
    rcases h.1 with rfl | ⟨rfl, _⟩
    · rfl
    · show sizes (x.l.map _) + 1 + _ = _; rw [sizes_rename]
  | [], y :: m, h => h.elim
  | x :: l, [], h => h.elim
/-- IncludeParameter: the plain law. -/
theorem law_parameter (s : Src) {k : Nat} {t : Tree} (ht : s.items[k]? = some t) (hk : t.h.kind = 13) {f g : Bytes} (hf : f ≠ []) (hg : g ≠ []) (hp : f ∈ t.h.names) (hfr : Free g t) : expand { s with items := s.items.set k (renamed f g t) } = expand s := by
  have hr := Rel.set hk hfr hp s.items k ht
  unfold expand
  dsimp only
  rw [sizes_rel hr, run_rel hf hg (env_rel hr) _ _ [] [] _ _ hr trivial]
/-! Copies. -/
/-- A template of clauses that need no definitions behind their instantiation. -/
theorem each_copy {E : Env} {t : Tree} {x : Item} {p : Int} {F : Tree → St → Int × St} : ∀ (l : List Tree) (s : St), (∀ y ∈ l, isClause y.h.kind = true ∧ Plain (inst t x y).h ∧ (inst t x y).h.name.length ≤ 24 ∧ ∀ s, F y s = included E (inst t x y) p s) → s.count + l.length ≤ 600 →
    each F l s = (0, ⟨s.count + l.length, s.out ++ l.map fun y => .node { (inst t x y).h with pos := p } (inst t x y).l⟩)
  | [], s, _, _ => by simp [each]
  | y :: l, s, h, hl => by
    obtain ⟨h1, h2, h3, h4⟩ := h y (List.mem_cons_self ..)
    rw [List.length_cons] at hl
    have e : included E (inst t x y) p s = (0, ⟨s.count + 1, s.out ++ [.node { (inst t x y).h with pos := p } (inst t x y).l]⟩) := by
      unfold included
      rw [if_neg (by omega)]
      unfold clause
      rw [if_neg (by omega)]
      have : define E { (inst t x y).h with pos := p } = some { (inst t x y).h with pos := p } := define_plain h2
      simp only [Tree.h] at this ⊢
      rw [this]
      rfl
    rw [each_cons, h4, e]
    simp only [if_true]
    rw [each_copy l _ (fun z hz => h z (List.mem_cons_of_mem _ hz)) (by dsimp only; omega)]
    simp only [List.map_cons, List.length_cons, List.append_assoc, List.cons_append, List.nil_append, Prod.mk.injEq, St.mk.injEq, true_and, and_true]
    omega
theorem law_copies {s : Src} {x t : Tree} (hs : s.items = [x, t]) (hx : x.h.kind = 14) (ht : t.h.kind = 13) (hof : x.h.of_ = t.h.name) (hn : x.h.names.length = t.h.names.length) (htw : twins t.h.names = false) (hxn : x.h.name.length ≤ 24)
    (hy : ∀ y ∈ t.l, isClause y.h.kind = true ∧ Plain (inst t x.h y).h ∧ (inst t x.h y).h.name.length ≤ 24) (hl : t.l.length ≤ 599) (hz : sizes s.items ≤ 600) :
    expand s = ({ s with items := t.l.map fun y => .node { (inst t x.h y).h with pos := x.h.pos } (inst t x.h y).l }, []) := by
  have h := expand_ok s hz
  have het : (env s.items).tmpl x.h.of_ = some t := by
    show first s.items 13 _ = _
    rw [hs, first_cons, if_neg (by rw [hx]; exact fun e => absurd e.1 (by decide)), first_cons, if_pos ⟨ht, hof.symm⟩]
  have e1 : examine (env s.items) [] x ⟨0, []⟩ = (0, ⟨1 + t.l.length, t.l.map fun y => .node { (inst t x.h y).h with pos := x.h.pos } (inst t x.h y).l⟩) := by
    unfold examine
    rw [if_neg (by rw [hx]; decide), if_pos hx]
    unfold incl
    rw [if_neg (by decide), het]
    dsimp only
    rw [if_neg (by rw [hn]; simp), if_neg (by simp), if_neg (by omega)]
    rw [each_copy (E := env s.items) (t := t) (x := x.h) (p := x.h.pos) t.l _ (fun y hy' => ⟨(hy y hy').1, (hy y hy').2.1, (hy y hy').2.2, fun s => by rw [if_pos (hy y hy').1]⟩) (by dsimp only; omega)]
    simp
  have e2 : ∀ s' : St, examine (env s.items) ([] ++ [x]) t s' = (0, s') := by
    intro s'
    unfold examine
    have hf : first ([] ++ [x]) t.h.kind t.h.name = none := by
      show first [x] _ _ = none
      rw [first_cons, if_neg (by rw [hx, ht]; exact fun e => absurd e.1 (by decide))]
      rfl
    rw [if_pos (by rw [ht]; decide), hf, htw, if_neg (by simp)]
  rw [hs] at h e1 e2
  rw [okRun_cons, e1] at h
  simp only [if_true] at h
  rw [okRun_cons, e2] at h
  simp only [if_true, okRun] at h
  exact h
end Go.Proofs.Yticakdajhmfpoaa.Ic
