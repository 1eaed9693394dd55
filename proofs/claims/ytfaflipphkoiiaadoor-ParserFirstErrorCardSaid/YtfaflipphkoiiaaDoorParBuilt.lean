/-
  The parser's steps are built out of a few; what holds of these holds of all: they leave a part of the tokens, and change nothing after an error.
-/
import Derived.Test.YtfaflipphkoiiaaDoorParFuel
namespace Go.Proofs.YtfaflipphkoiiaaDoor.Pr
open Lx (Tok)
set_option linter.unusedVariables false

/-- Built out of the parser's first steps. -/
inductive Built : {α : Type} → M α → Prop
  | ret {α : Type} (a : α) : Built (ret a)
  | bnd {α β : Type} {m : M α} {f : α → M β} (h : Built m) (hf : ∀ a, Built (f a)) : Built (bnd m f)
  | fail : Built fail
  | acc (x : Bytes) : Built (acc x)
  | opt (k : Nat) : Built (opt k)
  | good : Built good
  | long {α : Type} {m : Nat → M α} (hf : Fueled m) (h : ∀ n, Built (m n)) : Built (long m)
  | start (ws : List (Bytes × Nat)) : Built (start ws)
theorem Built.seq {α β : Type} {m : M α} {f : M β} (h : Built m) (hf : Built f) : Built (seq m f) := Built.bnd h fun _ => hf
theorem Built.take (k : Nat) : Built (take k) := Built.bnd (Built.opt k) fun o => by
  cases o with
  | none => exact Built.seq Built.fail (Built.ret _)
  | some t => exact Built.ret _
theorem Built.name : Built name := Built.bnd (Built.take 1) fun _ => Built.ret _
theorem Built.number : Built number := Built.bnd (Built.take 2) fun _ => Built.ret _
theorem Built.expect (l : List Bytes) : Built (expect l) := by
  induction l with
  | nil => exact Built.ret _
  | cons x r ih => exact Built.bnd (Built.acc x) fun b => by cases b <;> first | exact ih | exact Built.fail
theorem Built.anyOf (l : List Bytes) : ∀ i, Built (anyOf l i) := by
  induction l with
  | nil => intro i; exact Built.seq Built.fail (Built.ret _)
  | cons x r ih => intro i; exact Built.bnd (Built.acc x) fun b => by cases b <;> first | exact ih _ | exact Built.ret _
theorem Built.date : Built date := Built.bnd Built.number fun _ => Built.seq (Built.expect _) (Built.bnd Built.number fun _ => Built.seq (Built.expect _) (Built.bnd Built.number fun _ => Built.ret _))
theorem Built.named : Built named := Built.bnd Built.name fun _ => Built.bnd (Built.anyOf _ _) fun _ => Built.ret _
theorem Built.ite {α : Type} {c : Prop} [Decidable c] {a b : M α} (ha : Built a) (hb : Built b) : Built (if c then a else b) := by split <;> assumption
theorem Built.ratio : Built ratio := Built.bnd Built.number fun _ => Built.bnd (Built.acc _) fun _ => Built.ite (Built.bnd Built.number fun _ => Built.ret _) (Built.ret _)
theorem Built.days : Built days := Built.bnd Built.number fun _ => Built.bnd (Built.acc _) fun _ => Built.seq (Built.expect _) (Built.ret _)
theorem Built.span : Built span := Built.bnd (Built.opt 1) fun o => by
  cases o
  · exact Built.days
  · exact Built.ret _
theorem Built.namesMore (n : Nat) : Built (namesMore n) := by
  induction n with
  | zero => exact Built.ret _
  | succ n ih => exact Built.bnd (Built.acc _) fun _ => Built.ite (Built.bnd Built.name fun _ => Built.bnd ih fun _ => Built.ret _) (Built.ret _)
theorem Built.namesEnd (l : List Bytes) : Built (namesEnd l) := Built.seq (Built.expect _) (Built.ret _)
theorem Built.names : Built names := Built.seq (Built.expect _) (Built.bnd (Built.opt 1) fun o => by
  cases o
  · exact Built.namesEnd _
  · exact Built.bnd (Built.long names_fueled Built.namesMore) fun _ => Built.namesEnd _)
theorem Built.weekday : Built weekday := Built.anyOf _ _
theorem Built.weekendMore (n : Nat) : ∀ l, Built (weekendMore n l) := by
  induction n with
  | zero => exact fun l => Built.ret _
  | succ n ih => exact fun l => Built.bnd Built.weekday fun _ => Built.bnd Built.good fun _ => Built.ite (Built.bnd (Built.acc _) fun _ => Built.ite (ih _) (Built.seq (Built.expect _) (Built.ret _))) (Built.ret _)
theorem Built.datesMore (n : Nat) : Built (datesMore n) := by
  induction n with
  | zero => exact Built.ret _
  | succ n ih => exact Built.bnd Built.date fun _ => Built.bnd (Built.acc _) fun _ => Built.ite (Built.bnd ih fun _ => Built.ret _) (Built.ret _)
theorem Built.condsMore (n : Nat) : Built (condsMore n) := by
  induction n with
  | zero => exact Built.ret _
  | succ n ih => exact Built.bnd Built.named fun _ => Built.bnd (Built.acc _) fun _ => Built.ite (Built.bnd ih fun _ => Built.ret _) (Built.ret _)
theorem Built.bearer : Built bearer := Built.seq (Built.expect _) (Built.bnd Built.name fun _ => Built.seq (Built.expect _) (Built.bnd Built.name fun _ => Built.ret _))
theorem Built.circEnd (l : List Named) : Built (circEnd l) := Built.bnd (Built.acc _) fun _ => Built.ite (Built.seq (Built.expect _) (Built.bnd Built.name fun _ => Built.seq (Built.expect _) (Built.bnd Built.name fun _ => Built.ret _))) (Built.ret _)
theorem Built.circ : Built circ := Built.bnd (Built.acc _) fun _ => Built.ite (Built.bnd (Built.long conds_fueled Built.condsMore) fun _ => Built.circEnd _) (Built.circEnd _)
theorem Built.consEnd (q : Price) : Built (consEnd q) := Built.bnd (Built.acc _) fun _ => Built.ret _
theorem Built.priceEnd (r : Ratio) (u c : Bytes) : Built (priceEnd r u c) := Built.seq (Built.expect _) (Built.bnd Built.name fun _ => Built.consEnd _)
theorem Built.cons : Built cons := Built.bnd (Built.acc _) fun _ => Built.ite (Built.bnd (Built.opt 1) fun o => by
  cases o
  · exact Built.bnd Built.ratio fun _ => Built.bnd Built.name fun _ => Built.priceEnd _ _ _
  · exact Built.priceEnd _ _ _) (Built.consEnd _)
theorem Built.party : Built party := Built.bnd Built.name fun _ => Built.seq (Built.expect _) (Built.ret _)
theorem Built.role : Built role := Built.bnd Built.name fun _ => Built.seq (Built.expect _) (Built.bnd Built.name fun _ => Built.seq (Built.expect _) (Built.ret _))
theorem Built.unitEnd (n : Bytes) (wd : Nat) (r : Ratio) (u : Bytes) : Built (unitEnd n wd r u) := Built.seq (Built.expect _) (Built.ret _)
theorem Built.unitTail (n : Bytes) (wd : Nat) : Built (unitTail n wd) := Built.bnd (Built.acc _) fun _ => Built.ite (Built.bnd Built.ratio fun _ => Built.bnd Built.name fun _ => Built.unitEnd _ _ _ _) (Built.unitEnd _ _ _ _)
theorem Built.unit : Built unit := Built.bnd Built.name fun _ => Built.bnd (Built.acc _) fun _ => Built.ite (Built.unitTail _ _) (Built.seq (Built.expect _) (Built.unitTail _ _))
theorem Built.weekend : Built weekend := Built.bnd (Built.long (weekend_fueled _) fun n => Built.weekendMore n _) fun _ => Built.ret _
theorem Built.holiday : Built holiday := Built.bnd (Built.long dates_fueled Built.datesMore) fun _ => Built.seq (Built.expect _) (Built.ret _)
theorem Built.spanDef : Built spanDef := Built.bnd Built.name fun _ => Built.seq (Built.expect _) (Built.bnd Built.days fun _ => Built.seq (Built.expect _) (Built.ret _))
theorem Built.sumDef : Built sumDef := Built.bnd Built.name fun _ => Built.seq (Built.expect _) (Built.bnd Built.ratio fun _ => Built.bnd Built.name fun _ => Built.seq (Built.expect _) (Built.ret _))
theorem Built.actGive (n o : Bytes) (wd : Nat) : Built (actGive n o wd) := Built.bnd Built.name fun _ => Built.seq (Built.expect _) (Built.bnd Built.name fun _ => Built.seq (Built.expect _) (Built.ret _))
theorem Built.actEnd (n o : Bytes) (r : Ratio) (u x : Bytes) : Built (actEnd n o r u x) := Built.seq (Built.expect _) (Built.ret _)
theorem Built.actTo (n o : Bytes) (r : Ratio) (u : Bytes) : Built (actTo n o r u) := Built.bnd (Built.acc _) fun _ => Built.ite (Built.bnd Built.name fun _ => Built.actEnd _ _ _ _ _) (Built.actEnd _ _ _ _ _)
theorem Built.act : Built act := Built.bnd Built.name fun _ => Built.seq (Built.expect _) (Built.bnd Built.name fun _ => Built.bnd (Built.acc _) fun _ => Built.ite (Built.actGive _ _ _) (Built.bnd (Built.acc _) fun _ => Built.ite (Built.actGive _ _ _)
  (Built.bnd (Built.acc _) fun _ => Built.ite (Built.bnd Built.ratio fun _ => Built.bnd Built.name fun _ => Built.actTo _ _ _ _) (Built.actTo _ _ _ _))))
theorem Built.dutyEnd (n : Bytes) (oa : Bytes × Bytes) (t : Nat) (w g : Span) : Built (dutyEnd n oa t w g) := Built.bnd Built.circ fun _ => Built.bnd Built.cons fun _ => Built.seq (Built.expect _) (Built.ret _)
theorem Built.dutyTail (n : Bytes) (oa : Bytes × Bytes) (t : Nat) : Built (dutyTail n oa t) := Built.seq (Built.expect _) (Built.bnd Built.span fun _ => Built.bnd (Built.acc _) fun _ => Built.ite (Built.bnd Built.span fun _ => Built.dutyEnd _ _ _ _ _) (Built.dutyEnd _ _ _ _ _))
theorem Built.duty : Built duty := Built.bnd Built.name fun _ => Built.bnd Built.bearer fun _ => Built.bnd (Built.opt 2) fun o => by
  cases o
  · exact Built.dutyTail _ _ _
  · exact Built.seq (Built.expect _) (Built.dutyTail _ _ _)
theorem Built.ban : Built ban := Built.bnd Built.name fun _ => Built.bnd Built.bearer fun _ => Built.seq (Built.expect _) (Built.bnd Built.span fun _ => Built.bnd Built.circ fun _ => Built.bnd Built.cons fun _ => Built.seq (Built.expect _) (Built.ret _))
theorem Built.option : Built option := Built.bnd Built.name fun _ => Built.bnd Built.bearer fun _ => Built.seq (Built.expect _) (Built.bnd Built.span fun _ => Built.bnd Built.circ fun _ => Built.seq (Built.expect _) (Built.ret _))
theorem Built.watch : Built watch := Built.bnd Built.name fun _ => Built.seq (Built.expect _) (Built.bnd Built.name fun _ => Built.seq (Built.expect _) (Built.bnd Built.span fun _ => Built.bnd Built.circ fun _ => Built.seq (Built.expect _) (Built.ret _)))
theorem Built.incl : Built incl := Built.bnd Built.name fun _ => Built.seq (Built.expect _) (Built.bnd Built.name fun _ => Built.bnd Built.names fun _ => Built.seq (Built.expect _) (Built.ret _))
theorem Built.body (k : Nat) : Built (body k) := by
  unfold Pr.body
  split
  · exact Built.party
  · exact Built.role
  · exact Built.unit
  · exact Built.weekend
  · exact Built.holiday
  · exact Built.spanDef
  · exact Built.sumDef
  · exact Built.act
  · exact Built.duty
  · exact Built.ban
  · exact Built.option
  · exact Built.watch
  · exact Built.incl

theorem Built.inner : Built inner := Built.bnd (Built.start _) fun o => by
  cases o
  · exact Built.ret _
  · exact Built.bnd (Built.body _) fun _ => Built.ret _
theorem Built.tmplMore (n : Nat) : Built (tmplMore n) := by
  induction n with
  | zero => exact Built.ret _
  | succ n ih => exact Built.bnd Built.good fun _ => Built.ite (Built.bnd (Built.acc _) fun _ => Built.ite (Built.ret _) (Built.bnd Built.inner fun _ => Built.bnd ih fun _ => Built.ret _)) (Built.ret _)
theorem Built.template : Built template := Built.bnd Built.name fun _ => Built.bnd Built.names fun _ => Built.seq (Built.expect _) (Built.bnd (Built.long tmpl_fueled Built.tmplMore) fun _ => Built.ret _)
theorem Built.item : Built item := Built.bnd (Built.start _) fun o => by
  cases o
  · exact Built.ret _
  · exact Built.ite (Built.bnd Built.template fun _ => Built.ret _) (Built.bnd (Built.body _) fun _ => Built.ret _)
theorem Built.header : Built header := Built.seq (Built.expect _) (Built.bnd Built.name fun _ => Built.seq (Built.expect _) (Built.bnd Built.date fun _ => Built.seq (Built.expect _) (Built.bnd Built.number fun _ => Built.seq (Built.expect _) (Built.ret _))))

theorem fail_same (s : St) : (fail s).2.rest = s.rest := by unfold fail; simp only; split <;> rfl
theorem fail_stk (s : St) (h : s.err ≠ 0) : (fail s).2 = s := by unfold fail; simp only; rw [if_pos h]
theorem isT_stk {x : Bytes} {s : St} (h : s.err ≠ 0) : isT x s = false := by simp [isT, h]
theorem isK_stk {k : Nat} {s : St} (h : s.err ≠ 0) : isK k s = false := by simp [isK, h]
/-- What is left of the tokens is a part of them. -/
theorem Built.suf {α : Type} {m : M α} (h : Built m) : ∀ s, (m s).2.rest <:+ s.rest := by
  induction h with
  | ret a => intro s; exact List.suffix_refl _
  | bnd h hf ih ihf => intro s; exact (ihf _ _).trans (ih s)
  | fail => intro s; rw [fail_same]; exact List.suffix_refl _
  | acc x => intro s; unfold Pr.acc; split; exact List.tail_suffix _; exact List.suffix_refl _
  | opt k => intro s; unfold Pr.opt; split; exact List.tail_suffix _; exact List.suffix_refl _
  | good => intro s; exact List.suffix_refl _
  | long hf h ih => intro s; exact ih _ s
  | start ws =>
    intro s
    unfold Pr.start
    split
    · split
      · exact List.suffix_refl _
      · rename_i t r hr
        split
        · rw [fail_same]; exact List.suffix_refl _
        · split
          · exact List.suffix_refl _
          · rw [hr]; exact List.suffix_cons _ _
    · rw [fail_same]; exact List.suffix_refl _
/-- An error stays. -/
theorem Built.stk {α : Type} {m : M α} (h : Built m) : ∀ s, s.err ≠ 0 → (m s).2 = s := by
  induction h with
  | ret a => intro s _; rfl
  | bnd h hf ih ihf =>
    intro s hs
    show (_ : _ × St).2 = s
    unfold Pr.bnd
    rw [ih s hs]
    exact ihf _ s hs
  | fail => intro s hs; exact fail_stk s hs
  | acc x => intro s hs; unfold Pr.acc; rw [isT_stk hs]; rfl
  | opt k => intro s hs; unfold Pr.opt; rw [isK_stk hs]; rfl
  | good => intro s _; rfl
  | long hf h ih => intro s hs; exact ih _ s hs
  | start ws => intro s hs; unfold Pr.start; rw [isK_stk hs]; exact fail_stk s hs
/-- No error at the end: no error before. -/
theorem Built.ok {α : Type} {m : M α} (h : Built m) {s : St} (he : (m s).2.err = 0) : s.err = 0 := by
  by_cases hs : s.err = 0
  · exact hs
  · rw [h.stk s hs] at he; exact he
end Go.Proofs.YtfaflipphkoiiaaDoor.Pr
