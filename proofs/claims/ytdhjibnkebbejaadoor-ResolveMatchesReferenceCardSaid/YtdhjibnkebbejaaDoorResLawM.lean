/-
  The reference's way to the symbols of a source, in plain Lean; it leads to what the program's leads to.
-/
import Derived.Test.YtdhjibnkebbejaaDoorResLawA
namespace Go.Proofs.YtdhjibnkebbejaaDoor.Rs
set_option linter.unusedVariables false
set_option linter.unusedSimpArgs false

def rix (t : Tab) (g : Nat) (x : Bytes) : Int := match find t g x with | some i => (i : Int) | none => -1
def rixo (t : Tab) (g : Nat) (x : Bytes) : Int := if x = [] then -1 else rix t g x
/-- The error of an item before names are looked up. -/
def rerr (t : Tab) (x : Item) : Int := if group x.kind = 0 then (if x.kind = 4 ∨ x.kind = 5 then 0 else 10) else if (t (group x.kind)).contains x.name then 9 else if (t (group x.kind)).length < most (group x.kind) then 0 else 3
def rerrs : Tab → List Item → List Int
  | _, [] => []
  | t, x :: l => rerr t x :: rerrs (put t x) l
/-- How many days of a list come before a day. -/
def rpos (l : List Int) (d : Int) : Nat := (l.takeWhile fun x => decide (x < d)).length
def rput (l : List Int) (d : Int) : List Int := if l[rpos l d]? = some d then l else l.take (rpos l d) ++ [d] ++ l.drop (rpos l d)
def rdates : List Int → List Civil → List Int
  | out, [] => out
  | out, c :: ds => if out.length ≤ 400 then rdates (rput out ((number c).getD 0)) ds else out
def rholi (l : List Int) (x : Item) : List Int × Int :=
  if x.dates.any (fun c => (number c).isNone) then (l, 2) else (rdates l x.dates, if (rdates l x.dates).length > 400 then 3 else 0)
def opt (g : Nat) (x : Bytes) : List (Nat × Bytes) := if x = [] then [] else [(g, x)]
/-- The names that an item needs. -/
def needs (x : Item) : List (Nat × Bytes) :=
  if group x.kind = 2 then [(1, x.of_)]
  else if group x.kind = 3 then opt 3 x.unit
  else if group x.kind = 4 then opt 2 x.of_ ++ if gives x then [(2, x.give), (1, x.to_)] else opt 2 x.to_ ++ opt 3 x.unit
  else if group x.kind = 5 then (if x.kind = 12 then [] else [(2, x.of_)]) ++ [(4, x.act)] ++ x.conds.map (fun c => (5, c.name)) ++ opt 4 x.by_ ++ opt 4 x.til ++ if x.unit = [] then [] else [(3, x.unit), (2, x.to_)]
  else []
def named (x : Item) : Bool := decide (group x.kind = 5) && (decide (x.within.name ≠ []) || decide (x.grace.name ≠ []) || decide (x.sum ≠ []))
def unknown (t : Tab) (x : Item) : Bool := ((needs x).any fun p => !has t p.1 p.2) || named x
def runit (t : Tab) (x : Item) : Unit_ := if x.unit = [] then ⟨x.name, x.word, rix t 3 x.name, ⟨1, 1⟩⟩ else ⟨x.name, x.word, rix t 3 x.unit, x.num⟩
def ract (t : Tab) (x : Item) : ActType :=
  if gives x then ⟨x.word, rixo t 2 x.of_, rix t 2 x.give, rix t 1 x.to_, -1, ⟨0, 1⟩⟩
  else if x.unit = [] then ⟨x.word, rixo t 2 x.of_, 0, rixo t 2 x.to_, -1, ⟨0, 1⟩⟩
  else ⟨x.word, rixo t 2 x.of_, 0, rixo t 2 x.to_, rix t 3 x.unit, x.num⟩
def rcond (t : Tab) (c : Named) : Cond := ⟨rix t 5 c.name, c.is_⟩
def rclause (t : Tab) (x : Item) : Clause :=
  { kind := x.kind - 8, role := if x.kind = 12 then -1 else rix t 2 x.of_, act := rix t 4 x.act, need := if x.kind = 9 then x.times else 1, start := x.conds.map (rcond t), fin := x.fin, pause := rixo t 4 x.by_, resume := rixo t 4 x.til,
    value := if x.unit = [] then ⟨0, 1⟩ else x.num, unit := if x.unit = [] then -1 else rix t 3 x.unit, to_ := if x.unit = [] then -1 else rix t 2 x.to_ }
def rweek (s : Sy) (x : Item) : Sy := if x.kind = 4 then { s with weekend := orDays s.weekend x.days } else s
/-- What an item without a fault adds. -/
def radd (t : Tab) (s : Sy) (x : Item) : Sy :=
  if group x.kind = 1 then { s with parties := s.parties ++ [x.name] }
  else if group x.kind = 2 then { s with roles := s.roles ++ [(x.name, rix t 1 x.of_)] }
  else if group x.kind = 3 then { s with units := s.units ++ [runit t x] }
  else if group x.kind = 4 then { s with acts := s.acts ++ [⟨x.name, x.pos, ract t x⟩] }
  else if group x.kind = 5 then { s with clauses := s.clauses ++ [⟨x.name, x.pos, x.within, x.grace, rclause t x⟩] }
  else s
def rhol (s : Sy) (x : Item) (e : Int) : List Int × Int := if x.kind = 5 then rholi s.hol x else (s.hol, e)
def rerr2 (t : Tab) (x : Item) (e : Int) : Int := if e = 0 ∧ unknown t x = true then 8 else e
def ritem (t : Tab) (s : Sy) (x : Item) (e : Int) : Sy × Int :=
  if rerr2 t x (rhol s x e).2 = 0 then (rweek (radd t { s with hol := (rhol s x e).1 } x) x, 0) else ({ s with hol := (rhol s x e).1 }, rerr2 t x (rhol s x e).2)
def ritems (t : Tab) : Sy → List Fault → List Item → List Int → Sy × List Fault
  | s, f, x :: l, e :: es => ritems t (ritem t s x e).1 (if (ritem t s x e).2 = 0 then f else f ++ [⟨(ritem t s x e).2, x.pos⟩]) l es
  | s, f, _, _ => (s, f)
def rrun (l : List Item) : Sy × List Fault := ritems (tabs tab0 l) sy0 [] l (rerrs tab0 l)

/-! ### The holidays -/
theorem rput_cons (x : Int) (l : List Int) (d : Int) : rput (x :: l) d = if x < d then x :: rput l d else if x = d then x :: l else d :: x :: l := by
  unfold rput rpos
  by_cases h : x < d
  · have hne : x ≠ d := by omega
    simp [List.takeWhile_cons, h]
    split <;> simp
  · by_cases h2 : x = d
    · simp [List.takeWhile_cons, h, h2]
    · simp [List.takeWhile_cons, h, h2]
theorem rput_nil (d : Int) : rput [] d = [d] := rfl
theorem rput_mem (l : List Int) (d : Int) (hs : l.Pairwise (· < ·)) : (∀ x ∈ rput l d, x ∈ l ∨ x = d) ∧ (rput l d).Pairwise (· < ·) ∧ (d ∈ l → rput l d = l) ∧ (d ∉ l → (rput l d).Perm (l ++ [d])) := by
  induction l with
  | nil => rw [rput_nil]; simp
  | cons a l ih =>
    rw [List.pairwise_cons] at hs
    obtain ⟨i1, i2, i3, i4⟩ := ih hs.2
    rw [rput_cons]
    by_cases h : a < d
    · rw [if_pos h]
      refine ⟨?_, ?_, ?_, ?_⟩
      · intro x hx
        rcases List.mem_cons.1 hx with rfl | hx
        · simp
        · rcases i1 x hx with h1 | h1 <;> simp [h1]
      · rw [List.pairwise_cons]
        refine ⟨fun x hx => ?_, i2⟩
        rcases i1 x hx with h1 | h1
        · exact hs.1 x h1
        · omega
      · intro hd
        rcases List.mem_cons.1 hd with e | hd
        · omega
        · rw [i3 hd]
      · intro hd
        have : d ∉ l := fun hm => hd (List.mem_cons_of_mem _ hm)
        exact (i4 this).cons a
    · rw [if_neg h]
      by_cases h2 : a = d
      · rw [if_pos h2]
        refine ⟨fun x hx => .inl hx, List.pairwise_cons.2 hs, fun _ => rfl, fun hd => absurd ?_ hd⟩
        rw [h2]; simp
      · rw [if_neg h2]
        refine ⟨?_, ?_, ?_, ?_⟩
        · intro x hx
          rcases List.mem_cons.1 hx with rfl | hx
          · simp
          · exact .inl hx
        · rw [List.pairwise_cons]
          refine ⟨fun x hx => ?_, List.pairwise_cons.2 hs⟩
          rcases List.mem_cons.1 hx with rfl | hx
          · omega
          · have := hs.1 x hx; omega
        · intro hd
          rcases List.mem_cons.1 hd with e | hd
          · omega
          · have := hs.1 d hd; omega
        · intro _
          exact (List.perm_append_comm (l₁ := [d]) (l₂ := a :: l))
/-- The reference's holidays and the program's. -/
def HR (r h : List Int) : Prop := r.Pairwise (· < ·) ∧ (r.Perm h ∨ 400 < h.length ∧ 400 < r.length)
theorem HR.len {r h : List Int} (H : HR r h) : 400 < r.length ↔ 400 < h.length := by
  rcases H.2 with h1 | h1
  · rw [h1.length_eq]
  · exact ⟨fun _ => h1.1, fun _ => h1.2⟩
theorem hput_len (l : List Int) (d : Int) : l.length ≤ (hput l d).length := by
  unfold hput; split <;> simp
theorem HR.put {r h : List Int} (H : HR r h) (hl : r.length ≤ 400) (d : Int) : HR (rput r d) (hput h d) := by
  obtain ⟨k1, k2, k3, k4⟩ := rput_mem r d H.1
  refine ⟨k2, .inl ?_⟩
  have hp : r.Perm h := by
    rcases H.2 with h1 | h1
    · exact h1
    · omega
  unfold hput
  by_cases hd : d ∈ r
  · rw [k3 hd, if_pos (by simpa using hp.mem_iff.1 hd)]
    exact hp
  · rw [if_neg (by simpa using fun h => hd (hp.mem_iff.2 h))]
    exact (k4 hd).trans (hp.append_right [d])
theorem HR.big {r h : List Int} (H : HR r h) (hl : 400 < r.length) (ds : List Int) : HR r (ds.foldl hput h) := by
  have h1 := H.len.1 hl
  have h2 : ∀ (ds h : List Int), h.length ≤ (ds.foldl hput h).length := by
    intro ds
    induction ds with
    | nil => intro h; exact Nat.le_refl _
    | cons d ds ih => intro h; exact Nat.le_trans (hput_len h d) (ih _)
  have := h2 ds h
  exact ⟨H.1, .inr ⟨by omega, hl⟩⟩
theorem HR.dates (ds : List Civil) : ∀ (r h : List Int), HR r h → (ds.any (fun c => (number c).isNone)) = false → HR (rdates r ds) ((ds.filterMap number).foldl hput h) := by
  induction ds with
  | nil => intro r h H _; exact H
  | cons c ds ih =>
    intro r h H hn
    rw [List.any_cons, Bool.or_eq_false_iff] at hn
    obtain ⟨d, hd⟩ : ∃ d, number c = some d := Option.isSome_iff_exists.1 (by simpa using hn.1)
    rw [List.filterMap_cons_some hd, List.foldl_cons]
    unfold rdates
    split
    · rename_i hl
      rw [hd]
      exact ih _ _ (H.put hl d) hn.2
    · rename_i hl
      exact H.big (by omega) (d :: ds.filterMap number)
theorem HR.holi {s r : Sy} {x : Item} (H : HR r.hol s.hol) : (rholi r.hol x).2 = (holiday s x).2 ∧ HR (rholi r.hol x).1 (holiday s x).1.hol := by
  unfold rholi holiday
  by_cases hn : (x.dates.any (fun c => (number c).isNone)) = true
  · rw [if_pos hn, if_pos hn]
    exact ⟨rfl, H⟩
  · rw [if_neg hn, if_neg hn]
    have h1 := HR.dates x.dates r.hol s.hol H (by simpa using hn)
    refine ⟨?_, h1⟩
    have := h1.len
    dsimp only
    by_cases h4 : 400 < (rdates r.hol x.dates).length
    · rw [if_pos h4, if_pos (this.1 h4)]
    · rw [if_neg h4, if_neg (fun h => h4 (this.2 h))]
/-! ### The names -/
theorem rix_has {t : Tab} {g : Nat} {x : Bytes} (h : has t g x = true) : rix t g x = ix t g x := by
  unfold has at h; unfold rix ix
  cases hf : find t g x with
  | none => rw [hf] at h; cases h
  | some i => rfl
theorem rixo_has {t : Tab} {g : Nat} {x : Bytes} (h : haso t g x = true) : rixo t g x = ixo t g x := by
  unfold rixo ixo
  split
  · rfl
  · rename_i hx
    unfold haso at h
    refine rix_has ?_
    simpa [hx] using h
theorem opt_any (t : Tab) (g : Nat) (x : Bytes) : ((opt g x).any fun p => !has t p.1 p.2) = !haso t g x := by
  unfold opt haso
  by_cases hx : x = [] <;> simp [hx]
theorem unk_unit {t : Tab} {x : Item} (hg : group x.kind = 3) (hm : has t 3 x.name = true) : unknown t x = !unitOk t x ∧ (unitOk t x = true → runit t x = unitOf t x) := by
  unfold unknown needs named unitOk runit unitOf opt
  by_cases hu : x.unit = []
  · simp [hg, hu, hm, rix_has hm]
  · simp [hg, hu]
    exact fun h => rix_has h
theorem unk_act {t : Tab} {x : Item} (hg : group x.kind = 4) : unknown t x = !actOk t x ∧ (actOk t x = true → ract t x = actOf t x) := by
  constructor
  · unfold unknown needs named actOk
    simp only [hg]
    by_cases hgv : gives x = true
    · simp [hgv, opt_any, Bool.or_assoc]
    · simp [hgv, opt_any, Bool.or_assoc]
  · intro h
    unfold actOk at h
    unfold ract actOf
    rw [Bool.and_eq_true] at h
    by_cases hgv : gives x = true
    · simp only [hgv, if_true, Bool.and_eq_true] at h ⊢
      rw [rixo_has h.1, rix_has h.2.1, rix_has h.2.2]
      rfl
    · simp only [hgv, Bool.false_eq_true, if_false, Bool.and_eq_true] at h ⊢
      rw [rixo_has h.1, rixo_has h.2.1]
      by_cases hu : x.unit = []
      · simp only [hu, if_true]; rfl
      · simp only [hu, if_false]
        have h3 : has t 3 x.unit = true := by have := h.2.2; unfold haso at this; simpa [hu] using this
        rw [rix_has h3]; rfl
theorem kind_of5 {k : Int} (hg : group k = 5) : k = 9 ∨ k = 10 ∨ k = 11 ∨ k = 12 := by
  unfold group at hg
  repeat' split at hg
  all_goals first | assumption | cases hg
theorem unk_clause {t : Tab} {x : Item} (hg : group x.kind = 5) : unknown t x = !clauseOk t x ∧ (clauseOk t x = true → rclause t x = clauseOf t x) := by
  have hk := kind_of5 hg
  constructor
  · unfold unknown needs named clauseOk
    simp only [hg]
    by_cases h12 : x.kind = 12 <;> by_cases hu : x.unit = [] <;> simp [h12, hu, opt_any, List.any_append, List.any_map, Bool.not_and, Function.comp_def, List.all_eq_not_any_not] <;> grind
  · intro h
    unfold clauseOk at h
    simp only [Bool.and_eq_true] at h
    obtain ⟨⟨⟨⟨⟨⟨⟨⟨_, _⟩, _⟩, h1⟩, h2⟩, h3⟩, h4⟩, h5⟩, h6⟩ := h
    unfold rclause clauseOf
    rw [rix_has h2, rixo_has h4, rixo_has h5]
    have e1 : (if x.kind = 12 then (-1 : Int) else rix t 2 x.of_) = if x.kind = 12 then -1 else ix t 2 x.of_ := by
      split
      · rfl
      · rename_i hn; exact rix_has (by simpa [hn] using h1)
    have e2 : x.conds.map (rcond t) = x.conds.map (condOf t) := by
      refine List.map_congr_left fun c hc => ?_
      unfold rcond condOf
      rw [rix_has (List.all_eq_true.1 h3 c hc)]
    have e3 : (if x.unit = [] then (-1 : Int) else rix t 3 x.unit) = ixo t 3 x.unit := by
      unfold ixo
      split
      · rfl
      · rename_i hn
        have : has t 3 x.unit = true ∧ has t 2 x.to_ = true := by simpa [hn] using h6
        exact rix_has this.1
    have e4 : (if x.unit = [] then (-1 : Int) else rix t 2 x.to_) = if x.unit = [] then -1 else ix t 2 x.to_ := by
      split
      · rfl
      · rename_i hn
        have : has t 3 x.unit = true ∧ has t 2 x.to_ = true := by simpa [hn] using h6
        exact rix_has this.2
    have e5 : x.kind - 8 = clauseKind x.kind := by
      unfold clauseKind
      rcases hk with h | h | h | h <;> simp [h]
    rw [e1, e2, e3, e4, e5]
/-! ### The items -/
/-- The reference's symbols and the program's, up to now. -/
structure RSim (r s : Sy) : Prop where
  hol : HR r.hol s.hol
structure REq (r s : Sy) : Prop where
  wk : r.weekend = s.weekend
  par : r.parties = s.parties
  rol : r.roles = s.roles
  uni : r.units = s.units
  act : r.acts = s.acts
  cla : r.clauses = s.clauses
theorem rerr_eq (t : Tab) (x : Item) : rerr t x = if group x.kind = 0 then (if x.kind = 4 ∨ x.kind = 5 then 0 else 10) else if twice t x then 9 else if member t x then 0 else 3 := by
  unfold rerr twice member
  by_cases hg : group x.kind = 0
  · rw [if_pos hg, if_pos hg]
  · rw [if_neg hg, if_neg hg]
    by_cases hc : x.name ∈ t (group x.kind)
    · simp [hg, hc]
    · simp [hg, hc]
theorem grp0 {k : Int} (h : group k = 0) : k ≠ 1 ∧ k ≠ 2 ∧ k ≠ 3 ∧ k ≠ 8 ∧ k ≠ 9 ∧ k ≠ 10 ∧ k ≠ 11 ∧ k ≠ 12 := by
  unfold group at h
  repeat' split at h
  all_goals first | omega | cases h
theorem unk0 {t : Tab} {x : Item} (h : group x.kind = 0 ∨ group x.kind = 1) : unknown t x = false := by
  unfold unknown needs named
  rcases h with h | h <;> simp [h]
theorem ritem_eq (T t : Tab) (r s : Sy) (x : Item) (h : HR r.hol s.hol) (hm : member t x = true → has T (group x.kind) x.name = true) :
    (ritem T r x (rerr t x)).2 = (item T s x (twice t x) (member t x)).2 ∧ HR (ritem T r x (rerr t x)).1.hol (item T s x (twice t x) (member t x)).1.hol ∧
      (REq r s → (item T s x (twice t x) (member t x)).2 = 0 → REq (ritem T r x (rerr t x)).1 (item T s x (twice t x) (member t x)).1) := by
  rw [rerr_eq]
  by_cases h4 : x.kind = 4
  · have hg : group x.kind = 0 := by rw [h4]; rfl
    have hu : unknown T x = false := unk0 (.inl hg)
    unfold ritem rerr2 rhol item rweek radd
    simp [h4, hg, hu, h]
    rw [h4] at hg
    simp [hg, h]
    exact fun q => ⟨by simp [q.wk], q.par, q.rol, q.uni, q.act, q.cla⟩
  by_cases h5 : x.kind = 5
  · have hg : group x.kind = 0 := by rw [h5]; rfl
    have hu : unknown T x = false := unk0 (.inl hg)
    obtain ⟨k1, k2⟩ := HR.holi (s := s) (r := r) (x := x) h
    have e1 : ritem T r x (if group x.kind = 0 then (if x.kind = 4 ∨ x.kind = 5 then 0 else 10) else if twice t x then 9 else if member t x then 0 else 3) = ({ r with hol := (rholi r.hol x).1 }, (rholi r.hol x).2) := by
      unfold ritem rerr2 rhol rweek radd
      simp only [h5, hu, if_true, Bool.false_eq_true, and_false, if_false]
      rw [h5] at hg
      simp only [hg]
      by_cases h0 : (rholi r.hol x).2 = 0
      · simp [h0]
      · simp [h0]
    have e2 : item T s x (twice t x) (member t x) = holiday s x := by unfold item; rw [if_neg h4, if_pos h5]
    rw [e1, e2]
    refine ⟨k1, k2, fun q _ => ?_⟩
    have e3 : ∀ s : Sy, (holiday s x).1.weekend = s.weekend ∧ (holiday s x).1.parties = s.parties ∧ (holiday s x).1.roles = s.roles ∧ (holiday s x).1.units = s.units ∧ (holiday s x).1.acts = s.acts ∧ (holiday s x).1.clauses = s.clauses := by
      intro s; unfold holiday; split <;> exact ⟨rfl, rfl, rfl, rfl, rfl, rfl⟩
    obtain ⟨a1, a2, a3, a4, a5, a6⟩ := e3 s
    exact ⟨by rw [a1]; exact q.wk, by rw [a2]; exact q.par, by rw [a3]; exact q.rol, by rw [a4]; exact q.uni, by rw [a5]; exact q.act, by rw [a6]; exact q.cla⟩
  have hro : ∀ e, rhol r x e = (r.hol, e) := fun e => by unfold rhol; rw [if_neg h5]
  have hit : item T s x (twice t x) (member t x) = if group x.kind = 0 then (s, 10) else if twice t x then (s, 9) else if !(member t x) then (s, 3) else if x.kind = 1 then ({ s with parties := s.parties ++ [x.name] }, 0)
      else if x.kind = 2 then ({ s with roles := s.roles ++ [(x.name, ix T 1 x.of_)] }, if has T 1 x.of_ then 0 else 8)
      else if x.kind = 3 then ({ s with units := s.units ++ [unitOf T x] }, if unitOk T x then 0 else 8)
      else if x.kind = 8 then ({ s with acts := s.acts ++ [⟨x.name, x.pos, actOf T x⟩] }, if actOk T x then 0 else 8)
      else ({ s with clauses := s.clauses ++ [⟨x.name, x.pos, x.within, x.grace, clauseOf T x⟩] }, if clauseOk T x then 0 else 8) := by
    unfold item; rw [if_neg h4, if_neg h5]
  have hri : ∀ e, ritem T r x e = if rerr2 T x e = 0 then (radd T r x, 0) else (r, rerr2 T x e) := by
    intro e
    unfold ritem
    rw [hro]
    simp only [rweek, h4, if_false]
  rw [hit, hri]
  have stop : ∀ e : Int, e ≠ 0 → rerr2 T x e = e := fun e he => by unfold rerr2; rw [if_neg (by simp [he])]
  by_cases hg : group x.kind = 0
  · rw [if_pos hg, if_pos hg, if_neg (show ¬ (x.kind = 4 ∨ x.kind = 5) by simp [h4, h5]), stop 10 (by decide), if_neg (show ¬ (10 : Int) = 0 by decide)]
    exact ⟨rfl, h, fun q he => by cases he⟩
  rw [if_neg hg, if_neg hg]
  by_cases htw : twice t x = true
  · rw [if_pos htw, if_pos htw, stop 9 (by decide), if_neg (show ¬ (9 : Int) = 0 by decide)]
    exact ⟨rfl, h, fun q he => by cases he⟩
  rw [if_neg htw, if_neg htw]
  by_cases hmb : member t x = true
  case neg =>
    rw [if_neg hmb, if_pos (show (!member t x) = true by simpa using hmb), stop 3 (by decide), if_neg (show ¬ (3 : Int) = 0 by decide)]
    exact ⟨rfl, h, fun q he => by cases he⟩
  rw [if_pos hmb, if_neg (show ¬ (!member t x) = true by simp [hmb])]
  have hmem := hm hmb
  have ers : ∀ ok : Bool, unknown T x = !ok → rerr2 T x 0 = if ok then 0 else 8 := fun ok he => by
    unfold rerr2; rw [he]; cases ok <;> rfl
  have fin : ∀ (ok : Bool) (s' : Sy), unknown T x = (!ok) → s'.hol = s.hol → (radd T r x).hol = r.hol → (REq r s → ok = true → REq (radd T r x) s') →
      (if rerr2 T x 0 = 0 then (radd T r x, (0 : Int)) else (r, rerr2 T x 0)).2 = (s', if ok then (0 : Int) else 8).2 ∧ HR (if rerr2 T x 0 = 0 then (radd T r x, (0 : Int)) else (r, rerr2 T x 0)).1.hol (s', if ok then (0 : Int) else 8).1.hol ∧
        (REq r s → (s', if ok then (0 : Int) else 8).2 = 0 → REq (if rerr2 T x 0 = 0 then (radd T r x, (0 : Int)) else (r, rerr2 T x 0)).1 (s', if ok then (0 : Int) else 8).1) := by
    intro ok s' he h1 h2 h3
    rw [ers ok he]
    cases ok with
    | true => exact ⟨rfl, by show HR (radd T r x).hol s'.hol; rw [h1, h2]; exact h, fun q _ => h3 q rfl⟩
    | false => exact ⟨rfl, by show HR r.hol s'.hol; rw [h1]; exact h, fun q he => by cases he⟩
  by_cases h1 : x.kind = 1
  · have hg1 : group x.kind = 1 := by rw [h1]; rfl
    rw [if_pos h1]
    have er : radd T r x = { r with parties := r.parties ++ [x.name] } := by unfold radd; rw [if_pos hg1]
    have := fin true { s with parties := s.parties ++ [x.name] } (unk0 (.inr hg1)) rfl (by rw [er]) (fun q _ => by rw [er]; exact ⟨q.wk, by simp [q.par], q.rol, q.uni, q.act, q.cla⟩)
    exact this
  rw [if_neg h1]
  by_cases h2 : x.kind = 2
  · have hg1 : group x.kind = 2 := by rw [h2]; rfl
    rw [if_pos h2]
    have er : radd T r x = { r with roles := r.roles ++ [(x.name, rix T 1 x.of_)] } := by unfold radd; rw [if_neg (by omega), if_pos hg1]
    exact fin (has T 1 x.of_) _ (by unfold unknown needs named; rw [if_pos hg1, hg1]; simp) rfl (by rw [er]) (fun q ho => by rw [er, rix_has ho]; exact ⟨q.wk, q.par, by simp [q.rol], q.uni, q.act, q.cla⟩)
  rw [if_neg h2]
  by_cases h3 : x.kind = 3
  · have hg1 : group x.kind = 3 := by rw [h3]; rfl
    rw [if_pos h3]
    have er : radd T r x = { r with units := r.units ++ [runit T x] } := by unfold radd; rw [if_neg (by omega), if_neg (by omega), if_pos hg1]
    rw [hg1] at hmem
    obtain ⟨u1, u2⟩ := unk_unit hg1 hmem
    exact fin (unitOk T x) _ u1 rfl (by rw [er]) (fun q ho => by rw [er, u2 ho]; exact ⟨q.wk, q.par, q.rol, by simp [q.uni], q.act, q.cla⟩)
  rw [if_neg h3]
  by_cases h8 : x.kind = 8
  · have hg1 : group x.kind = 4 := by rw [h8]; rfl
    rw [if_pos h8]
    have er : radd T r x = { r with acts := r.acts ++ [⟨x.name, x.pos, ract T x⟩] } := by unfold radd; rw [if_neg (by omega), if_neg (by omega), if_neg (by omega), if_pos hg1]
    obtain ⟨u1, u2⟩ := unk_act (t := T) hg1
    exact fin (actOk T x) _ u1 rfl (by rw [er]) (fun q ho => by rw [er, u2 ho]; exact ⟨q.wk, q.par, q.rol, q.uni, by simp [q.act], q.cla⟩)
  rw [if_neg h8]
  have hg1 : group x.kind = 5 := by
    unfold group at hg ⊢
    simp only [h1, h2, h3, h8, if_false] at hg ⊢
    split
    · rfl
    · rename_i hn; rw [if_neg hn] at hg; exact absurd rfl hg
  have er : radd T r x = { r with clauses := r.clauses ++ [⟨x.name, x.pos, x.within, x.grace, rclause T x⟩] } := by unfold radd; rw [if_neg (by omega), if_neg (by omega), if_neg (by omega), if_neg (by omega), if_pos hg1]
  obtain ⟨u1, u2⟩ := unk_clause (t := T) hg1
  exact fin (clauseOk T x) _ u1 rfl (by rw [er]) (fun q ho => by rw [er, u2 ho]; exact ⟨q.wk, q.par, q.rol, q.uni, q.act, by simp [q.cla]⟩)
/-- A member is found in the whole tables. -/
theorem has_put (t : Tab) (x : Item) (h : member t x = true) : has (put t x) (group x.kind) x.name = true := by
  unfold put has find
  rw [if_pos h]
  unfold Tab.add
  rw [if_pos rfl, List.findIdx?_isSome]
  simp
theorem tabs_cons (t : Tab) (x : Item) (l : List Item) : tabs t (x :: l) = tabs (put t x) l := rfl
theorem ritems_eq (l : List Item) : ∀ (t : Tab) (r s : Sy) (f : List Fault), HR r.hol s.hol → (f = [] → REq r s) →
    (ritems (tabs t l) r f l (rerrs t l)).2 = (items (tabs t l) s f l (marks t l)).2 ∧ HR (ritems (tabs t l) r f l (rerrs t l)).1.hol (items (tabs t l) s f l (marks t l)).1.hol ∧
      ((items (tabs t l) s f l (marks t l)).2 = [] → REq (ritems (tabs t l) r f l (rerrs t l)).1 (items (tabs t l) s f l (marks t l)).1) := by
  suffices hs : ∀ (T t : Tab) (r s : Sy) (f : List Fault), T = tabs t l → HR r.hol s.hol → (f = [] → REq r s) →
      (ritems T r f l (rerrs t l)).2 = (items T s f l (marks t l)).2 ∧ HR (ritems T r f l (rerrs t l)).1.hol (items T s f l (marks t l)).1.hol ∧
        ((items T s f l (marks t l)).2 = [] → REq (ritems T r f l (rerrs t l)).1 (items T s f l (marks t l)).1) from fun t r s f => hs _ t r s f rfl
  induction l with
  | nil => intro T t r s f _ h q; exact ⟨rfl, h, q⟩
  | cons x l ih =>
    intro T t r s f hT h q
    rw [tabs_cons] at hT
    have hm : member t x = true → has T (group x.kind) x.name = true := fun hm => by
      rw [hT]; exact (has_ext (ext_tabs (put t x) l) (has_put t x hm)).1
    obtain ⟨k1, k2, k3⟩ := ritem_eq T t r s x h hm
    have e1 : ritems T r f (x :: l) (rerrs t (x :: l)) = ritems T (ritem T r x (rerr t x)).1 (if (ritem T r x (rerr t x)).2 = 0 then f else f ++ [⟨(ritem T r x (rerr t x)).2, x.pos⟩]) l (rerrs (put t x) l) := by
      conv => lhs; unfold rerrs; unfold ritems
    have e2 : items T s f (x :: l) (marks t (x :: l)) = items T (item T s x (twice t x) (member t x)).1 (if (item T s x (twice t x) (member t x)).2 = 0 then f else f ++ [⟨(item T s x (twice t x) (member t x)).2, x.pos⟩]) l (marks (put t x) l) := by
      conv => lhs; unfold marks; unfold items
    rw [e1, e2, k1]
    refine ih T (put t x) _ _ _ hT k2 (fun hf => ?_)
    split at hf
    · rename_i h0
      exact k3 (q hf) h0
    · simp at hf
theorem run_ref (l : List Item) : (rrun l).2 = (run l).2 ∧ ((run l).2 = [] → REq (rrun l).1 (run l).1 ∧ HR (rrun l).1.hol (run l).1.hol) := by
  obtain ⟨h1, h2, h3⟩ := ritems_eq l tab0 sy0 sy0 [] ⟨List.Pairwise.nil, .inl (List.Perm.refl _)⟩ (fun _ => ⟨rfl, rfl, rfl, rfl, rfl, rfl⟩)
  exact ⟨h1, fun h0 => ⟨h3 h0, h2⟩⟩
end Go.Proofs.YtdhjibnkebbejaaDoor.Rs
