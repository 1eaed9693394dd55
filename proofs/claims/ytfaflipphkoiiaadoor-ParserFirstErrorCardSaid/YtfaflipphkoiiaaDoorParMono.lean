/-
  Plain facts on the parser's steps: no step gives tokens back.
-/
import Derived.Test.YtfaflipphkoiiaaDoorParPlain
namespace Go.Proofs.YtfaflipphkoiiaaDoor.Pr
open Lx (Tok)
set_option linter.unusedVariables false

/-- No tokens are given back. -/
def Mono {α : Type} (m : M α) : Prop := ∀ s, (m s).2.rest.length ≤ s.rest.length
theorem Mono.ret {α : Type} (a : α) : Mono (ret a) := fun s => Nat.le_refl _
theorem Mono.bnd {α β : Type} {m : M α} {f : α → M β} (h : Mono m) (hf : ∀ a, Mono (f a)) : Mono (bnd m f) := fun s => Nat.le_trans (hf _ _) (h s)
theorem Mono.seq {α β : Type} {m : M α} {f : M β} (h : Mono m) (hf : Mono f) : Mono (seq m f) := Mono.bnd h fun _ => hf
theorem fail_rest (s : St) : (fail s).2.rest = s.rest := by unfold fail; simp only; split <;> rfl
theorem Mono.fail : Mono fail := fun s => by rw [fail_rest]; exact Nat.le_refl _
theorem Mono.acc (x : Bytes) : Mono (acc x) := by
  intro s
  unfold Pr.acc
  split <;> simp
theorem Mono.opt (k : Nat) : Mono (opt k) := by
  intro s
  unfold Pr.opt
  split <;> simp
theorem Mono.take (k : Nat) : Mono (take k) := Mono.bnd (Mono.opt k) fun o => by
  cases o with
  | none => exact Mono.seq Mono.fail (Mono.ret _)
  | some t => exact Mono.ret _
theorem Mono.name : Mono name := Mono.bnd (Mono.take 1) fun _ => Mono.ret _
theorem Mono.number : Mono number := Mono.bnd (Mono.take 2) fun _ => Mono.ret _
theorem Mono.expect (l : List Bytes) : Mono (expect l) := by
  induction l with
  | nil => exact Mono.ret _
  | cons x r ih => exact Mono.bnd (Mono.acc x) fun b => by cases b <;> first | exact ih | exact Mono.fail
theorem Mono.anyOf (l : List Bytes) : ∀ i, Mono (anyOf l i) := by
  induction l with
  | nil => intro i; exact Mono.seq Mono.fail (Mono.ret _)
  | cons x r ih => intro i; exact Mono.bnd (Mono.acc x) fun b => by cases b <;> first | exact ih _ | exact Mono.ret _
theorem Mono.date : Mono date := Mono.bnd Mono.number fun _ => Mono.seq (Mono.expect _) (Mono.bnd Mono.number fun _ => Mono.seq (Mono.expect _) (Mono.bnd Mono.number fun _ => Mono.ret _))
theorem Mono.named : Mono named := Mono.bnd Mono.name fun _ => Mono.bnd (Mono.anyOf _ _) fun _ => Mono.ret _
/-- A word that is accepted is consumed. -/
theorem acc_len {x : Bytes} {s : St} (h : (acc x s).1 = true) : (acc x s).2.rest.length + 1 = s.rest.length ∧ s.err = 0 := by
  unfold acc at h ⊢
  cases hi : isT x s with
  | false => rw [hi] at h; simp at h
  | true =>
    simp only [if_true]
    unfold isT at hi
    cases hr : s.rest with
    | nil => rw [hr] at hi; simp at hi
    | cons t r => simp at hi; exact ⟨by simp, hi.1⟩
theorem namesMore_succ (f : Nat) (s : St) : namesMore (f + 1) s = if (acc [44] s).1 then ((name (acc [44] s).2).1 :: (namesMore f (name (acc [44] s).2).2).1, (namesMore f (name (acc [44] s).2).2).2) else ([], (acc [44] s).2) := by
  show bnd (acc [44]) (fun b => if b then bnd name fun x => bnd (namesMore f) fun l => ret (x :: l) else ret []) s = _
  unfold bnd
  cases (acc [44] s).1 <;> rfl
theorem datesMore_succ (f : Nat) (s : St) : datesMore (f + 1) s = if (acc [44] (date s).2).1 then ((date s).1 :: (datesMore f (acc [44] (date s).2).2).1, (datesMore f (acc [44] (date s).2).2).2) else ([(date s).1], (acc [44] (date s).2).2) := by
  show bnd date (fun d => bnd (acc [44]) fun b => if b then bnd (datesMore f) fun l => ret (d :: l) else ret [d]) s = _
  unfold bnd
  dsimp only
  cases (acc [44] (date s).2).1 <;> rfl
theorem condsMore_succ (f : Nat) (s : St) : condsMore (f + 1) s = if (acc [97, 110, 100] (named s).2).1 then ((named s).1 :: (condsMore f (acc [97, 110, 100] (named s).2).2).1, (condsMore f (acc [97, 110, 100] (named s).2).2).2) else ([(named s).1], (acc [97, 110, 100] (named s).2).2) := by
  show bnd named (fun d => bnd (acc [97, 110, 100]) fun b => if b then bnd (condsMore f) fun l => ret (d :: l) else ret [d]) s = _
  unfold bnd
  dsimp only
  cases (acc [97, 110, 100] (named s).2).1 <;> rfl
theorem weekendMore_succ (f : Nat) (l : List Bool) (s : St) : weekendMore (f + 1) l s = if (weekday s).2.err = 0 then (if (acc [44] (weekday s).2).1 then weekendMore f (l.set (weekday s).1 true) (acc [44] (weekday s).2).2 else (l.set (weekday s).1 true, (expect [[59]] (acc [44] (weekday s).2).2).2)) else (l, (weekday s).2) := by
  show bnd weekday (fun d => bnd good fun g => if g then bnd (acc [44]) fun b => if b then weekendMore f (l.set d true) else seq (expect [[59]]) (ret (l.set d true)) else ret l) s = _
  unfold bnd good
  by_cases h : (weekday s).2.err = 0
  · have h2 : ((weekday s).2.err == 0) = true := by simp [h]
    simp only [h2, if_true, if_pos h]
    show (bnd (acc [44]) fun b => if b then weekendMore f (l.set (weekday s).1 true) else seq (expect [[59]]) (ret (l.set (weekday s).1 true))) (weekday s).2 = _
    unfold bnd
    cases (acc [44] (weekday s).2).1 <;> rfl
  · have h2 : ((weekday s).2.err == 0) = false := by simp [h]
    simp only [h2, if_neg h]
    rfl
end Go.Proofs.YtfaflipphkoiiaaDoor.Pr
