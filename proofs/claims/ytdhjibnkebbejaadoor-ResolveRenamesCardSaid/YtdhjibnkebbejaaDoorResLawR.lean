/-
  What a text behind all names does to the symbols, in plain Lean.
-/
import Derived.Test.YtdhjibnkebbejaaDoorResLawA
namespace Go.Proofs.YtdhjibnkebbejaaDoor.Rs
set_option linter.unusedVariables false

/-! Names with a text appended. -/
def nm (u n : Bytes) : Bytes := if n = [] then [] else n ++ u
theorem nm_nil (u n : Bytes) : nm u n = [] ↔ n = [] := by
  unfold nm
  by_cases h : n = []
  · simp [h]
  · simp [h]
theorem nm_inj {u a b : Bytes} : nm u a = nm u b ↔ a = b := by
  constructor
  · intro h
    by_cases ha : a = []
    · rw [ha] at h ⊢
      rw [(nm_nil u []).2 rfl] at h
      exact ((nm_nil u b).1 h.symm).symm
    · have hb : b ≠ [] := by intro e; rw [e, (nm_nil u []).2 rfl] at h; exact ha ((nm_nil u a).1 h)
      unfold nm at h
      rw [if_neg ha, if_neg hb] at h
      exact List.append_cancel_right h
  · rintro rfl; rfl
def rcond (u : Bytes) (c : Named) : Named := ⟨nm u c.name, c.is_⟩
def ren (u : Bytes) (x : Item) : Item := { x with name := nm u x.name, of_ := nm u x.of_, act := nm u x.act, by_ := nm u x.by_, til := nm u x.til, unit := nm u x.unit, sum := nm u x.sum, give := nm u x.give, to_ := nm u x.to_, conds := x.conds.map (rcond u) }
def tRole (u : Bytes) (r : Bytes × Int) : Bytes × Int := (nm u r.1, r.2)
def tUnit (u : Bytes) (x : Unit_) : Unit_ := { x with name := nm u x.name }
def tAct (u : Bytes) (x : ActSym) : ActSym := { x with name := nm u x.name }
def tCla (u : Bytes) (x : ClauseSym) : ClauseSym := { x with name := nm u x.name }
def txt (u : Bytes) (s : Sy) : Sy := { s with parties := s.parties.map (nm u), roles := s.roles.map (tRole u), units := s.units.map (tUnit u), acts := s.acts.map (tAct u), clauses := s.clauses.map (tCla u) }
def tmap (u : Bytes) (t : Tab) : Tab := fun g => (t g).map (nm u)
theorem beq_nm (u a b : Bytes) : (nm u a == nm u b) = (a == b) := by
  by_cases h : a = b
  · rw [h]; simp
  · rw [beq_eq_false_iff_ne.2 h, beq_eq_false_iff_ne.2 (fun e => h (nm_inj.1 e))]
theorem find_nm (u : Bytes) (t : Tab) (g : Nat) (x : Bytes) : find (tmap u t) g (nm u x) = find t g x := by
  unfold find tmap
  rw [List.findIdx?_map]
  congr 1
  funext y
  exact beq_nm u y x
theorem ix_nm (u : Bytes) (t : Tab) (g : Nat) (x : Bytes) : ix (tmap u t) g (nm u x) = ix t g x := by unfold ix; rw [find_nm]
theorem has_nm (u : Bytes) (t : Tab) (g : Nat) (x : Bytes) : has (tmap u t) g (nm u x) = has t g x := by unfold has; rw [find_nm]
theorem if_nm {α : Type} (u x : Bytes) (a b : α) : (if nm u x = [] then a else b) = if x = [] then a else b := by
  by_cases h : x = []
  · rw [if_pos h, if_pos ((nm_nil u x).2 h)]
  · rw [if_neg h, if_neg (fun e => h ((nm_nil u x).1 e))]
theorem dec_nm (u x : Bytes) : decide (nm u x = []) = decide (x = []) := by
  by_cases h : x = []
  · rw [decide_eq_true h, decide_eq_true ((nm_nil u x).2 h)]
  · rw [decide_eq_false h, decide_eq_false (fun e => h ((nm_nil u x).1 e))]
theorem ixo_nm (u : Bytes) (t : Tab) (g : Nat) (x : Bytes) : ixo (tmap u t) g (nm u x) = ixo t g x := by unfold ixo; rw [if_nm, ix_nm]
theorem haso_nm (u : Bytes) (t : Tab) (g : Nat) (x : Bytes) : haso (tmap u t) g (nm u x) = haso t g x := by unfold haso; rw [dec_nm, has_nm]
theorem contains_nm (u : Bytes) (l : List Bytes) (x : Bytes) : (l.map (nm u)).contains (nm u x) = l.contains x := by
  induction l with
  | nil => rfl
  | cons a l ih => rw [List.map_cons, List.contains_cons, List.contains_cons, ih, beq_nm]
theorem twice_nm (u : Bytes) (t : Tab) (x : Item) : twice (tmap u t) (ren u x) = twice t x := by
  show (decide (group x.kind ≠ 0) && ((t (group x.kind)).map (nm u)).contains (nm u x.name)) = _
  rw [contains_nm]; rfl
theorem member_nm (u : Bytes) (t : Tab) (x : Item) : member (tmap u t) (ren u x) = member t x := by
  show (decide (group x.kind ≠ 0) && !((t (group x.kind)).map (nm u)).contains (nm u x.name) && decide (((t (group x.kind)).map (nm u)).length < most (group x.kind))) = _
  rw [contains_nm, List.length_map]; rfl
theorem put_nm (u : Bytes) (t : Tab) (x : Item) : put (tmap u t) (ren u x) = tmap u (put t x) := by
  unfold put
  rw [member_nm]
  split
  · funext h
    show (if h = group x.kind then tmap u t h ++ [nm u x.name] else tmap u t h) = ((if h = group x.kind then t h ++ [x.name] else t h).map (nm u))
    split
    · rw [List.map_append]; rfl
    · rfl
  · rfl
theorem marks_nm (u : Bytes) (t : Tab) (l : List Item) : marks (tmap u t) (l.map (ren u)) = marks t l := by
  induction l generalizing t with
  | nil => rfl
  | cons x l ih => simp only [List.map_cons, marks, twice_nm, member_nm, put_nm, ih]
theorem tabs_nm (u : Bytes) (t : Tab) (l : List Item) : tabs (tmap u t) (l.map (ren u)) = tmap u (tabs t l) := by
  induction l generalizing t with
  | nil => rfl
  | cons x l ih =>
    show tabs (put (tmap u t) (ren u x)) (l.map (ren u)) = tmap u (tabs (put t x) l)
    rw [put_nm, ih]
theorem unitOf_nm (u : Bytes) (t : Tab) (x : Item) : unitOf (tmap u t) (ren u x) = tUnit u (unitOf t x) := by
  show (if nm u x.unit = [] then (⟨nm u x.name, x.word, ix (tmap u t) 3 (nm u x.name), ⟨1, 1⟩⟩ : Unit_) else ⟨nm u x.name, x.word, ix (tmap u t) 3 (nm u x.unit), x.num⟩) = _
  rw [if_nm, ix_nm, ix_nm]
  unfold unitOf
  split <;> rfl
theorem unitOk_nm (u : Bytes) (t : Tab) (x : Item) : unitOk (tmap u t) (ren u x) = unitOk t x := by
  show (if nm u x.unit = [] then has (tmap u t) 3 (nm u x.name) else has (tmap u t) 3 (nm u x.unit)) = _
  rw [if_nm, has_nm, has_nm]; rfl
theorem actOf_nm (u : Bytes) (t : Tab) (x : Item) : actOf (tmap u t) (ren u x) = actOf t x := by
  show (if gives x then (⟨x.word, if nm u x.of_ = [] then -1 else ix (tmap u t) 2 (nm u x.of_), ix (tmap u t) 2 (nm u x.give), ix (tmap u t) 1 (nm u x.to_), -1, ⟨0, 1⟩⟩ : ActType)
    else if nm u x.unit = [] then ⟨x.word, if nm u x.of_ = [] then -1 else ix (tmap u t) 2 (nm u x.of_), 0, ixo (tmap u t) 2 (nm u x.to_), -1, ⟨0, 1⟩⟩
    else ⟨x.word, if nm u x.of_ = [] then -1 else ix (tmap u t) 2 (nm u x.of_), 0, ixo (tmap u t) 2 (nm u x.to_), ix (tmap u t) 3 (nm u x.unit), x.num⟩) = _
  rw [if_nm, if_nm, ix_nm, ix_nm, ix_nm, ix_nm, ixo_nm]; rfl
theorem actOk_nm (u : Bytes) (t : Tab) (x : Item) : actOk (tmap u t) (ren u x) = actOk t x := by
  show (haso (tmap u t) 2 (nm u x.of_) && if gives x then has (tmap u t) 2 (nm u x.give) && has (tmap u t) 1 (nm u x.to_) else haso (tmap u t) 2 (nm u x.to_) && haso (tmap u t) 3 (nm u x.unit)) = _
  rw [haso_nm, haso_nm, haso_nm, has_nm, has_nm]; rfl
theorem conds_nm (u : Bytes) (t : Tab) (l : List Named) : (l.map (rcond u)).map (condOf (tmap u t)) = l.map (condOf t) := by
  rw [List.map_map]
  congr 1
  funext c
  show (⟨ix (tmap u t) 5 (nm u c.name), c.is_⟩ : Cond) = _
  rw [ix_nm]; rfl
theorem clauseOf_nm (u : Bytes) (t : Tab) (x : Item) : clauseOf (tmap u t) (ren u x) = clauseOf t x := by
  show (⟨clauseKind x.kind, if x.kind = 12 then -1 else ix (tmap u t) 2 (nm u x.of_), ix (tmap u t) 4 (nm u x.act), if x.kind = 9 then x.times else 1, (x.conds.map (rcond u)).map (condOf (tmap u t)), x.fin, ixo (tmap u t) 4 (nm u x.by_), ixo (tmap u t) 4 (nm u x.til), if nm u x.unit = [] then ⟨0, 1⟩ else x.num, ixo (tmap u t) 3 (nm u x.unit), if nm u x.unit = [] then -1 else ix (tmap u t) 2 (nm u x.to_)⟩ : Clause) = _
  rw [if_nm, if_nm, ix_nm, ix_nm, ix_nm, ixo_nm, ixo_nm, ixo_nm, conds_nm]; rfl
theorem all_nm (u : Bytes) (t : Tab) (l : List Named) : ((l.map (rcond u)).all fun c => has (tmap u t) 5 c.name) = l.all fun c => has t 5 c.name := by
  rw [List.all_map]
  congr 1
  funext c
  show has (tmap u t) 5 (nm u c.name) = _
  rw [has_nm]
theorem clauseOk_nm (u : Bytes) (t : Tab) (x : Item) : clauseOk (tmap u t) (ren u x) = clauseOk t x := by
  show (decide (x.within.name = []) && decide (x.grace.name = []) && decide (nm u x.sum = []) && (decide (x.kind = 12) || has (tmap u t) 2 (nm u x.of_)) && has (tmap u t) 4 (nm u x.act) && (x.conds.map (rcond u)).all (fun c => has (tmap u t) 5 c.name) && haso (tmap u t) 4 (nm u x.by_) && haso (tmap u t) 4 (nm u x.til)
  && (decide (nm u x.unit = []) || has (tmap u t) 3 (nm u x.unit) && has (tmap u t) 2 (nm u x.to_))) = _
  rw [dec_nm, dec_nm, has_nm, has_nm, has_nm, has_nm, haso_nm, haso_nm, all_nm]; rfl
theorem item_nm (u : Bytes) (t : Tab) (s : Sy) (x : Item) (tw mb : Bool) : item (tmap u t) (txt u s) (ren u x) tw mb = (txt u (item t s x tw mb).1, (item t s x tw mb).2) := by
  have hk : (ren u x).kind = x.kind := rfl
  unfold item
  rw [unitOf_nm, unitOk_nm, actOf_nm, actOk_nm, clauseOf_nm, clauseOk_nm, hk]
  by_cases h4 : x.kind = 4
  · simp only [if_pos h4]; rfl
  rw [if_neg h4, if_neg h4]
  by_cases h5 : x.kind = 5
  · rw [if_pos h5, if_pos h5]
    unfold holiday
    show (if (x.dates.any fun c => (number c).isNone) then _ else _) = _
    split <;> rfl
  rw [if_neg h5, if_neg h5]
  by_cases hg : group x.kind = 0
  · simp only [if_pos hg]
  rw [if_neg hg, if_neg hg]
  by_cases htw : tw = true
  · simp only [if_pos htw]
  rw [if_neg htw, if_neg htw]
  by_cases hm : (!mb) = true
  · simp only [if_pos hm]
  rw [if_neg hm, if_neg hm]
  by_cases h1 : x.kind = 1
  · rw [if_pos h1, if_pos h1]; simp only [txt, List.map_append]; rfl
  rw [if_neg h1, if_neg h1]
  by_cases h2 : x.kind = 2
  · rw [if_pos h2, if_pos h2]
    have e1 : ix (tmap u t) 1 (ren u x).of_ = ix t 1 x.of_ := ix_nm ..
    have e2 : has (tmap u t) 1 (ren u x).of_ = has t 1 x.of_ := has_nm ..
    rw [e1, e2]
    simp only [txt, List.map_append]; rfl
  rw [if_neg h2, if_neg h2]
  by_cases h3 : x.kind = 3
  · rw [if_pos h3, if_pos h3]; simp only [txt, List.map_append]; rfl
  rw [if_neg h3, if_neg h3]
  by_cases h8 : x.kind = 8
  · rw [if_pos h8, if_pos h8]; simp only [txt, List.map_append]; rfl
  rw [if_neg h8, if_neg h8]
  simp only [txt, List.map_append]; rfl
theorem items_nm (u : Bytes) (t : Tab) (l : List Item) (ms : List (Bool × Bool)) (s : Sy) (f : List Fault) : items (tmap u t) (txt u s) f (l.map (ren u)) ms = (txt u (items t s f l ms).1, (items t s f l ms).2) := by
  induction l generalizing ms s f with
  | nil => rfl
  | cons x l ih =>
    cases ms with
    | nil => rfl
    | cons m ms =>
      rw [List.map_cons, items_step, items_step, item_nm]
      exact ih ms _ _
theorem run_renames (u : Bytes) (l : List Item) : run (l.map (ren u)) = (txt u (run l).1, (run l).2) := by
  have ht : tmap u tab0 = tab0 := rfl
  unfold run
  have h1 := tabs_nm u tab0 l
  have h2 := marks_nm u tab0 l
  rw [ht] at h1 h2
  rw [h1, h2]
  exact items_nm u _ l _ sy0 []
end Go.Proofs.YtdhjibnkebbejaaDoor.Rs
