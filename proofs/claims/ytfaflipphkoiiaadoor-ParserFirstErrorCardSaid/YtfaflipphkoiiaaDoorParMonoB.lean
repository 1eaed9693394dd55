/-
  Plain facts on the parser's steps: no step gives tokens back; an item consumes a token or fails.
-/
import Derived.Test.YtfaflipphkoiiaaDoorParMono
namespace Go.Proofs.YtfaflipphkoiiaaDoor.Pr
open Lx (Tok)
set_option linter.unusedVariables false

theorem Mono.ite {α : Type} {c : Prop} [Decidable c] {a b : M α} (ha : Mono a) (hb : Mono b) : Mono (if c then a else b) := by split <;> assumption
theorem Mono.good : Mono good := fun s => Nat.le_refl _
theorem Mono.long {α : Type} {m : Nat → M α} (h : ∀ n, Mono (m n)) : Mono (long m) := fun s => h _ s
theorem Mono.ratio : Mono ratio := Mono.bnd Mono.number fun _ => Mono.bnd (Mono.acc _) fun _ => Mono.ite (Mono.bnd Mono.number fun _ => Mono.ret _) (Mono.ret _)
theorem Mono.days : Mono days := Mono.bnd Mono.number fun _ => Mono.bnd (Mono.acc _) fun _ => Mono.seq (Mono.expect _) (Mono.ret _)
theorem Mono.span : Mono span := Mono.bnd (Mono.opt 1) fun o => by
  cases o
  · exact Mono.days
  · exact Mono.ret _
theorem Mono.namesMore (n : Nat) : Mono (namesMore n) := by
  induction n with
  | zero => exact Mono.ret _
  | succ n ih => exact Mono.bnd (Mono.acc _) fun _ => Mono.ite (Mono.bnd Mono.name fun _ => Mono.bnd ih fun _ => Mono.ret _) (Mono.ret _)
theorem Mono.namesEnd (l : List Bytes) : Mono (namesEnd l) := Mono.seq (Mono.expect _) (Mono.ret _)
theorem Mono.names : Mono names := Mono.seq (Mono.expect _) (Mono.bnd (Mono.opt 1) fun o => by
  cases o
  · exact Mono.namesEnd _
  · exact Mono.bnd (Mono.long Mono.namesMore) fun _ => Mono.namesEnd _)
theorem Mono.weekday : Mono weekday := Mono.anyOf _ _
theorem Mono.weekendMore (n : Nat) : ∀ l, Mono (weekendMore n l) := by
  induction n with
  | zero => exact fun l => Mono.ret _
  | succ n ih => exact fun l => Mono.bnd Mono.weekday fun _ => Mono.bnd Mono.good fun _ => Mono.ite (Mono.bnd (Mono.acc _) fun _ => Mono.ite (ih _) (Mono.seq (Mono.expect _) (Mono.ret _))) (Mono.ret _)
theorem Mono.datesMore (n : Nat) : Mono (datesMore n) := by
  induction n with
  | zero => exact Mono.ret _
  | succ n ih => exact Mono.bnd Mono.date fun _ => Mono.bnd (Mono.acc _) fun _ => Mono.ite (Mono.bnd ih fun _ => Mono.ret _) (Mono.ret _)
theorem Mono.condsMore (n : Nat) : Mono (condsMore n) := by
  induction n with
  | zero => exact Mono.ret _
  | succ n ih => exact Mono.bnd Mono.named fun _ => Mono.bnd (Mono.acc _) fun _ => Mono.ite (Mono.bnd ih fun _ => Mono.ret _) (Mono.ret _)
theorem Mono.bearer : Mono bearer := Mono.seq (Mono.expect _) (Mono.bnd Mono.name fun _ => Mono.seq (Mono.expect _) (Mono.bnd Mono.name fun _ => Mono.ret _))
theorem Mono.circEnd (l : List Named) : Mono (circEnd l) := Mono.bnd (Mono.acc _) fun _ => Mono.ite (Mono.seq (Mono.expect _) (Mono.bnd Mono.name fun _ => Mono.seq (Mono.expect _) (Mono.bnd Mono.name fun _ => Mono.ret _))) (Mono.ret _)
theorem Mono.circ : Mono circ := Mono.bnd (Mono.acc _) fun _ => Mono.ite (Mono.bnd (Mono.long Mono.condsMore) fun _ => Mono.circEnd _) (Mono.circEnd _)
theorem Mono.consEnd (q : Price) : Mono (consEnd q) := Mono.bnd (Mono.acc _) fun _ => Mono.ret _
theorem Mono.priceEnd (r : Ratio) (u c : Bytes) : Mono (priceEnd r u c) := Mono.seq (Mono.expect _) (Mono.bnd Mono.name fun _ => Mono.consEnd _)
theorem Mono.cons : Mono cons := Mono.bnd (Mono.acc _) fun _ => Mono.ite (Mono.bnd (Mono.opt 1) fun o => by
  cases o
  · exact Mono.bnd Mono.ratio fun _ => Mono.bnd Mono.name fun _ => Mono.priceEnd _ _ _
  · exact Mono.priceEnd _ _ _) (Mono.consEnd _)
theorem Mono.party : Mono party := Mono.bnd Mono.name fun _ => Mono.seq (Mono.expect _) (Mono.ret _)
theorem Mono.role : Mono role := Mono.bnd Mono.name fun _ => Mono.seq (Mono.expect _) (Mono.bnd Mono.name fun _ => Mono.seq (Mono.expect _) (Mono.ret _))
theorem Mono.unitEnd (n : Bytes) (wd : Nat) (r : Ratio) (u : Bytes) : Mono (unitEnd n wd r u) := Mono.seq (Mono.expect _) (Mono.ret _)
theorem Mono.unitTail (n : Bytes) (wd : Nat) : Mono (unitTail n wd) := Mono.bnd (Mono.acc _) fun _ => Mono.ite (Mono.bnd Mono.ratio fun _ => Mono.bnd Mono.name fun _ => Mono.unitEnd _ _ _ _) (Mono.unitEnd _ _ _ _)
theorem Mono.unit : Mono unit := Mono.bnd Mono.name fun _ => Mono.bnd (Mono.acc _) fun _ => Mono.ite (Mono.unitTail _ _) (Mono.seq (Mono.expect _) (Mono.unitTail _ _))
theorem Mono.weekend : Mono weekend := Mono.bnd (Mono.long fun n => Mono.weekendMore n _) fun _ => Mono.ret _
theorem Mono.holiday : Mono holiday := Mono.bnd (Mono.long Mono.datesMore) fun _ => Mono.seq (Mono.expect _) (Mono.ret _)
theorem Mono.spanDef : Mono spanDef := Mono.bnd Mono.name fun _ => Mono.seq (Mono.expect _) (Mono.bnd Mono.days fun _ => Mono.seq (Mono.expect _) (Mono.ret _))
theorem Mono.sumDef : Mono sumDef := Mono.bnd Mono.name fun _ => Mono.seq (Mono.expect _) (Mono.bnd Mono.ratio fun _ => Mono.bnd Mono.name fun _ => Mono.seq (Mono.expect _) (Mono.ret _))
theorem Mono.actGive (n o : Bytes) (wd : Nat) : Mono (actGive n o wd) := Mono.bnd Mono.name fun _ => Mono.seq (Mono.expect _) (Mono.bnd Mono.name fun _ => Mono.seq (Mono.expect _) (Mono.ret _))
theorem Mono.actEnd (n o : Bytes) (r : Ratio) (u x : Bytes) : Mono (actEnd n o r u x) := Mono.seq (Mono.expect _) (Mono.ret _)
theorem Mono.actTo (n o : Bytes) (r : Ratio) (u : Bytes) : Mono (actTo n o r u) := Mono.bnd (Mono.acc _) fun _ => Mono.ite (Mono.bnd Mono.name fun _ => Mono.actEnd _ _ _ _ _) (Mono.actEnd _ _ _ _ _)
theorem Mono.act : Mono act := Mono.bnd Mono.name fun _ => Mono.seq (Mono.expect _) (Mono.bnd Mono.name fun _ => Mono.bnd (Mono.acc _) fun _ => Mono.ite (Mono.actGive _ _ _) (Mono.bnd (Mono.acc _) fun _ => Mono.ite (Mono.actGive _ _ _)
  (Mono.bnd (Mono.acc _) fun _ => Mono.ite (Mono.bnd Mono.ratio fun _ => Mono.bnd Mono.name fun _ => Mono.actTo _ _ _ _) (Mono.actTo _ _ _ _))))
theorem Mono.dutyEnd (n : Bytes) (oa : Bytes × Bytes) (t : Nat) (w g : Span) : Mono (dutyEnd n oa t w g) := Mono.bnd Mono.circ fun _ => Mono.bnd Mono.cons fun _ => Mono.seq (Mono.expect _) (Mono.ret _)
theorem Mono.dutyTail (n : Bytes) (oa : Bytes × Bytes) (t : Nat) : Mono (dutyTail n oa t) := Mono.seq (Mono.expect _) (Mono.bnd Mono.span fun _ => Mono.bnd (Mono.acc _) fun _ => Mono.ite (Mono.bnd Mono.span fun _ => Mono.dutyEnd _ _ _ _ _) (Mono.dutyEnd _ _ _ _ _))
theorem Mono.duty : Mono duty := Mono.bnd Mono.name fun _ => Mono.bnd Mono.bearer fun _ => Mono.bnd (Mono.opt 2) fun o => by
  cases o
  · exact Mono.dutyTail _ _ _
  · exact Mono.seq (Mono.expect _) (Mono.dutyTail _ _ _)
theorem Mono.ban : Mono ban := Mono.bnd Mono.name fun _ => Mono.bnd Mono.bearer fun _ => Mono.seq (Mono.expect _) (Mono.bnd Mono.span fun _ => Mono.bnd Mono.circ fun _ => Mono.bnd Mono.cons fun _ => Mono.seq (Mono.expect _) (Mono.ret _))
theorem Mono.option : Mono option := Mono.bnd Mono.name fun _ => Mono.bnd Mono.bearer fun _ => Mono.seq (Mono.expect _) (Mono.bnd Mono.span fun _ => Mono.bnd Mono.circ fun _ => Mono.seq (Mono.expect _) (Mono.ret _))
theorem Mono.watch : Mono watch := Mono.bnd Mono.name fun _ => Mono.seq (Mono.expect _) (Mono.bnd Mono.name fun _ => Mono.seq (Mono.expect _) (Mono.bnd Mono.span fun _ => Mono.bnd Mono.circ fun _ => Mono.seq (Mono.expect _) (Mono.ret _)))
theorem Mono.incl : Mono incl := Mono.bnd Mono.name fun _ => Mono.seq (Mono.expect _) (Mono.bnd Mono.name fun _ => Mono.bnd Mono.names fun _ => Mono.seq (Mono.expect _) (Mono.ret _))
theorem Mono.body (k : Nat) : Mono (body k) := by
  unfold Pr.body
  split
  · exact Mono.party
  · exact Mono.role
  · exact Mono.unit
  · exact Mono.weekend
  · exact Mono.holiday
  · exact Mono.spanDef
  · exact Mono.sumDef
  · exact Mono.act
  · exact Mono.duty
  · exact Mono.ban
  · exact Mono.option
  · exact Mono.watch
  · exact Mono.incl
/-- The start of an item consumes a token, or there is an error. -/
theorem start_some {ws : List (Bytes × Nat)} {s : St} {kp : Nat × Nat} (h : (start ws s).1 = some kp) : (start ws s).2.rest.length + 1 = s.rest.length ∧ s.err = 0 := by
  unfold start at h ⊢
  cases hk : isK 1 s with
  | false => rw [hk] at h; simp at h
  | true =>
    rw [hk] at h
    simp only [if_true] at h ⊢
    have he : s.err = 0 := by simp [isK] at hk; exact hk.1
    cases hr : s.rest with
    | nil => rw [hr] at h; simp at h
    | cons t r =>
      rw [hr] at h
      simp only at h ⊢
      cases hl : ws.lookup t.text with
      | none => rw [hl] at h; simp at h
      | some k =>
        rw [hl] at h
        simp only at h ⊢
        by_cases h6 : s.items = 600
        · rw [if_pos h6] at h; simp at h
        · rw [if_neg h6]; exact ⟨by simp, he⟩
theorem fail_err (s : St) : (fail s).2.err ≠ 0 := by
  unfold fail
  simp only
  split
  · assumption
  · split <;> simp
theorem start_none {ws : List (Bytes × Nat)} {s : St} (h : (start ws s).1 = none) : (start ws s).2.err ≠ 0 ∧ (start ws s).2.rest = s.rest := by
  unfold start at h ⊢
  cases hk : isK 1 s with
  | false => simp only [Bool.false_eq_true, if_false]; exact ⟨fail_err s, fail_rest s⟩
  | true =>
    rw [hk] at h
    simp only [if_true] at h ⊢
    cases hr : s.rest with
    | nil => simp [isK, hr] at hk
    | cons t r =>
      rw [hr] at h
      simp only at h ⊢
      cases hl : ws.lookup t.text with
      | none => simp only; exact ⟨fail_err s, (fail_rest s).trans hr⟩
      | some k =>
        rw [hl] at h
        simp only at h ⊢
        by_cases h6 : s.items = 600
        · rw [if_pos h6]; exact ⟨by simp, rfl⟩
        · rw [if_neg h6] at h; simp at h
theorem Mono.start (ws : List (Bytes × Nat)) : Mono (start ws) := by
  intro s
  cases h : (Pr.start ws s).1 with
  | none => rw [(start_none h).2]; exact Nat.le_refl _
  | some kp => have := (start_some h).1; omega
theorem inner_prog (s : St) : (inner s).2.rest.length ≤ s.rest.length ∧ ((inner s).2.err = 0 → (inner s).2.rest.length < s.rest.length) := by
  unfold inner bnd
  cases h : (start innerWords s).1 with
  | none =>
    have h2 := start_none h
    exact ⟨by show (start innerWords s).2.rest.length ≤ _; rw [h2.2]; exact Nat.le_refl _, fun he => absurd he h2.1⟩
  | some kp =>
    have h2 := start_some h
    have h3 := Mono.body kp.1 (start innerWords s).2
    refine ⟨?_, fun _ => ?_⟩
    · show (body kp.1 (start innerWords s).2).2.rest.length ≤ _; omega
    · show (body kp.1 (start innerWords s).2).2.rest.length < _; omega
theorem Mono.inner : Mono inner := fun s => (inner_prog s).1
theorem Mono.tmplMore (n : Nat) : Mono (tmplMore n) := by
  induction n with
  | zero => exact Mono.ret _
  | succ n ih => exact Mono.bnd Mono.good fun _ => Mono.ite (Mono.bnd (Mono.acc _) fun _ => Mono.ite (Mono.ret _) (Mono.bnd Mono.inner fun _ => Mono.bnd ih fun _ => Mono.ret _)) (Mono.ret _)
theorem Mono.template : Mono template := Mono.bnd Mono.name fun _ => Mono.bnd Mono.names fun _ => Mono.seq (Mono.expect _) (Mono.bnd (Mono.long Mono.tmplMore) fun _ => Mono.ret _)
theorem item_prog (s : St) : (item s).2.rest.length ≤ s.rest.length ∧ ((item s).2.err = 0 → (item s).2.rest.length < s.rest.length) := by
  unfold item bnd
  cases h : (start allWords s).1 with
  | none =>
    have h2 := start_none h
    exact ⟨by show (start allWords s).2.rest.length ≤ _; rw [h2.2]; exact Nat.le_refl _, fun he => absurd he h2.1⟩
  | some kp =>
    have h2 := start_some h
    by_cases h13 : kp.1 = 13
    · have h3 := Mono.template (start allWords s).2
      simp only [if_pos h13]
      refine ⟨?_, fun _ => ?_⟩
      · show (template (start allWords s).2).2.rest.length ≤ _; omega
      · show (template (start allWords s).2).2.rest.length < _; omega
    · have h3 := Mono.body kp.1 (start allWords s).2
      simp only [if_neg h13]
      refine ⟨?_, fun _ => ?_⟩
      · show (body kp.1 (start allWords s).2).2.rest.length ≤ _; omega
      · show (body kp.1 (start allWords s).2).2.rest.length < _; omega
theorem tmplMore_err (f : Nat) (s : St) (h : s.err ≠ 0) : tmplMore f s = ([], s) := by
  cases f with
  | zero => rfl
  | succ f => simp [tmplMore, bnd, good, h, ret]
theorem tmplMore_succ (f : Nat) (s : St) (h : s.err = 0) : tmplMore (f + 1) s = if (acc [125] s).1 then ([], (acc [125] s).2) else ((inner (acc [125] s).2).1 :: (tmplMore f (inner (acc [125] s).2).2).1, (tmplMore f (inner (acc [125] s).2).2).2) := by
  have hb : (s.err == 0) = true := by simp [h]
  show bnd good (fun g => if g then bnd (acc [125]) fun b => if b then ret [] else bnd inner fun x => bnd (tmplMore f) fun l => ret (x :: l) else ret []) s = _
  unfold bnd good
  simp only [hb, if_true]
  cases (acc [125] s).1 <;> rfl
theorem itemsMore_end (f : Nat) (s : St) (h : s.err ≠ 0 ∨ s.rest = []) : itemsMore f s = ([], s) := by
  cases f with
  | zero => rfl
  | succ f =>
    have : (s.err == 0 && !s.rest.isEmpty) = false := by rcases h with h | h <;> simp [h]
    simp [itemsMore, bnd, more, this, ret]
theorem itemsMore_succ (f : Nat) (s : St) (h : s.err = 0) (hr : s.rest ≠ []) : itemsMore (f + 1) s = ((item s).1 :: (itemsMore f (item s).2).1, (itemsMore f (item s).2).2) := by
  have hb : (s.err == 0 && !s.rest.isEmpty) = true := by cases hh : s.rest <;> simp_all
  show bnd more (fun g => if g then bnd item fun x => bnd (itemsMore f) fun l => ret (x :: l) else ret []) s = _
  unfold bnd more
  simp only [hb, if_true]
  rfl
end Go.Proofs.YtfaflipphkoiiaaDoor.Pr
