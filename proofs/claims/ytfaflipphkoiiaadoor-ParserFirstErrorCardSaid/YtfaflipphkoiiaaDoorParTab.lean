/-
  The tables of kinds hold the parsers' functions; items inside and outside of templates.
-/
import Derived.Test.YtfaflipphkoiiaaDoorParItemFnB
import Derived.Test.YtfaflipphkoiiaaDoorParMonoB
namespace Go.Proofs.YtfaflipphkoiiaaDoor.Pr
open Go.RowKit Mem
open Lx (Tok)
set_option linter.unusedVariables false

def Fits : List (Bytes × Nat) → List MapEntry → Prop
  | [], [] => True
  | p :: ws, e :: es => (e.key = .string ⟨p.1.toArray⟩ ∧ e.val = .func (.func (fid p.2)) #[] #[]) ∧ Fits ws es
  | _, _ => False
theorem same_str (x y : Bytes) : Instr.sameNow .string (.string ⟨x.toArray⟩) (.string ⟨y.toArray⟩) = some (x == y) := by
  simp only [Instr.sameNow]
  congr 1
  rw [Bool.eq_iff_iff, MapKept.bytes_beq]
  simp
theorem find_fits (x : Bytes) : ∀ (ws : List (Bytes × Nat)) (es : List MapEntry) (i : Nat), Fits ws es →
    (∀ k, ws.lookup x = some k → ∃ j, Instr.findNow .string (.string ⟨x.toArray⟩) es i = some (some (j, .func (.func (fid k)) #[] #[]))) ∧ (ws.lookup x = none → Instr.findNow .string (.string ⟨x.toArray⟩) es i = some none)
  | [], [], i, h => ⟨fun k hk => by simp at hk, fun _ => rfl⟩
  | p :: ws, [], i, h => h.elim
  | [], e :: es, i, h => h.elim
  | (y, k0) :: ws, e :: es, i, h => by
    obtain ⟨⟨h1, h2⟩, h3⟩ := h
    have ih := find_fits x ws es (i + 1) h3
    unfold Instr.findNow
    rw [h1, same_str, List.lookup_cons]
    cases hxy : x == y with
    | true =>
      refine ⟨fun k hk => ⟨i, ?_⟩, fun hk => ?_⟩
      · simp only at hk
        injection hk with hk
        simp only [h2, ← hk]
      · simp only at hk; cases hk
    | false =>
      simp only
      exact ih
theorem fits_inner : Fits innerWords innerEnts.toList := by
  unfold innerWords innerEnts
  simp only [Fits]
  repeat' constructor
theorem fits_all : Fits allWords allEnts.toList := by
  unfold allWords innerWords allEnts
  simp only [Fits, List.cons_append, List.nil_append]
  repeat' constructor
theorem lookup_mem {x : Bytes} {k : Nat} : ∀ {ws : List (Bytes × Nat)}, ws.lookup x = some k → (x, k) ∈ ws
  | (y, k0) :: ws, h => by
    rw [List.lookup_cons] at h
    cases hxy : x == y with
    | true =>
      simp only [hxy] at h
      injection h with h
      obtain rfl : x = y := by simpa using hxy
      subst h
      exact List.mem_cons_self
    | false => simp only [hxy] at h; exact List.mem_cons_of_mem _ (lookup_mem h)
theorem lookup_inner {x : Bytes} {k : Nat} (h : innerWords.lookup x = some k) : k = 9 ∨ k = 10 ∨ k = 11 ∨ k = 12 ∨ k = 14 := by
  have := lookup_mem h
  simp [innerWords] at this
  rcases this with h | h | h | h | h <;> simp [h.2]
theorem lookup_all {x : Bytes} {k : Nat} (h : allWords.lookup x = some k) : 1 ≤ k ∧ k ≤ 14 := by
  have := lookup_mem h
  simp [allWords, innerWords] at this
  rcases this with h | h | h | h | h | h | h | h | h | h | h | h | h | h <;> simp [h.2]
theorem ent_role (args : Array Value) (W : World) : (callFunc 62 args).run Tryd.prog W = .ok (.enter 62 args) W := by kernel_rfl
theorem ent_unit (args : Array Value) (W : World) : (callFunc 63 args).run Tryd.prog W = .ok (.enter 63 args) W := by kernel_rfl
theorem ent_weekend (args : Array Value) (W : World) : (callFunc 64 args).run Tryd.prog W = .ok (.enter 64 args) W := by kernel_rfl
theorem ent_holiday (args : Array Value) (W : World) : (callFunc 65 args).run Tryd.prog W = .ok (.enter 65 args) W := by kernel_rfl
theorem ent_spanDefinition (args : Array Value) (W : World) : (callFunc 66 args).run Tryd.prog W = .ok (.enter 66 args) W := by kernel_rfl
theorem ent_sumDefinition (args : Array Value) (W : World) : (callFunc 67 args).run Tryd.prog W = .ok (.enter 67 args) W := by kernel_rfl
theorem ent_act (args : Array Value) (W : World) : (callFunc 68 args).run Tryd.prog W = .ok (.enter 68 args) W := by kernel_rfl
theorem ent_duty (args : Array Value) (W : World) : (callFunc 88 args).run Tryd.prog W = .ok (.enter 88 args) W := by kernel_rfl
theorem ent_ban (args : Array Value) (W : World) : (callFunc 89 args).run Tryd.prog W = .ok (.enter 89 args) W := by kernel_rfl
theorem ent_option (args : Array Value) (W : World) : (callFunc 90 args).run Tryd.prog W = .ok (.enter 90 args) W := by kernel_rfl
theorem ent_watch (args : Array Value) (W : World) : (callFunc 91 args).run Tryd.prog W = .ok (.enter 91 args) W := by kernel_rfl
theorem ent_template (args : Array Value) (W : World) : (callFunc 69 args).run Tryd.prog W = .ok (.enter 69 args) W := by kernel_rfl
theorem ent_include (args : Array Value) (W : World) : (callFunc 92 args).run Tryd.prog W = .ok (.enter 92 args) W := by kernel_rfl
theorem ent_fid (k : Nat) (h1 : 1 ≤ k) (h2 : k ≤ 14) (args : Array Value) (W : World) : (callFunc (fid k) args).run Tryd.prog W = .ok (.enter (fid k) args) W := by
  obtain h | h | h | h | h | h | h | h | h | h | h | h | h | h : k = 1 ∨ k = 2 ∨ k = 3 ∨ k = 4 ∨ k = 5 ∨ k = 6 ∨ k = 7 ∨ k = 8 ∨ k = 9 ∨ k = 10 ∨ k = 11 ∨ k = 12 ∨ k = 13 ∨ k = 14 := by omega
  all_goals subst h
  · exact ent_party args W
  · exact ent_role args W
  · exact ent_unit args W
  · exact ent_weekend args W
  · exact ent_holiday args W
  · exact ent_spanDefinition args W
  · exact ent_sumDefinition args W
  · exact ent_act args W
  · exact ent_duty args W
  · exact ent_ban args W
  · exact ent_option args W
  · exact ent_watch args W
  · exact ent_template args W
  · exact ent_include args W
theorem tab_inner : Tab innerWords innerEnts :=
  ⟨fun x k h => (find_fits x _ _ 0 fits_inner).1 k h, fun x h => (find_fits x _ _ 0 fits_inner).2 h, fun x k h args W => ent_fid k (by have := lookup_inner h; omega) (by have := lookup_inner h; omega) args W⟩
theorem tab_all : Tab allWords allEnts :=
  ⟨fun x k h => (find_fits x _ _ 0 fits_all).1 k h, fun x h => (find_fits x _ _ 0 fits_all).2 h, fun x k h args W => ent_fid k (lookup_all h).1 (lookup_all h).2 args W⟩
theorem start_kind {ws : List (Bytes × Nat)} {s : St} {kp : Nat × Nat} (h : (start ws s).1 = some kp) : ∃ x, ws.lookup x = some kp.1 := by
  unfold start at h
  cases hk : isK 1 s with
  | false => rw [hk] at h; simp at h
  | true =>
    rw [hk] at h
    simp only [if_true] at h
    cases hr : s.rest with
    | nil => rw [hr] at h; simp at h
    | cons t r =>
      rw [hr] at h
      simp only at h
      cases hl : ws.lookup t.text with
      | none => rw [hl] at h; simp at h
      | some k =>
        rw [hl] at h
        simp only at h
        by_cases h6 : s.items = 600
        · rw [if_pos h6] at h; simp at h
        · rw [if_neg h6] at h
          simp only [Option.some.injEq] at h
          exact ⟨_, by rw [hl, ← h]⟩
theorem itemI_inner (s : St) : itemI innerWords s = (⟨(inner s).1, []⟩, (inner s).2) := by
  unfold itemI inner bnd
  cases h : (start innerWords s).1 with
  | none => rfl
  | some kp =>
    obtain ⟨x, hx⟩ := start_kind h
    have hk := lookup_inner hx
    have : kp.1 ≠ 13 := by omega
    simp only [bodyI, if_neg this]
    rfl
theorem itemI_all (s : St) : itemI allWords s = item s := by
  unfold itemI item bnd
  cases h : (start allWords s).1 with
  | none => rfl
  | some kp =>
    by_cases h13 : kp.1 = 13
    · simp only [bodyI, if_pos h13]
    · simp only [bodyI, if_neg h13]
      rfl
/-- The method item inside a template. -/
theorem inner_any (E : Env) (b : Nat) (s : St) (W : World) (h : PW E b s W) (r : Nat) (hr : W.heap[r]? = some (.map innerEnts 5)) (hbr : b < r) :
    Calls Tryd.prog 39 #[.pointer (some ⟨b, 0, none⟩), .map (some r)] W fun e w' => (∃ sc sd sn, e = .returned (.agg (icells (inner s).1 sc sd sn nil).toArray) ∧ FlatOK W.heap.size (inner s).1 sc sd sn w') ∧ After E b (inner s).2 W w' := by
  have := item_any innerWords innerEnts 5 tab_inner E b (fun x k hx s W hP => body_any k (by have := lookup_inner hx; omega) E b s W hP) s W h r hr hbr
  rw [itemI_inner] at this
  refine this.mono ?_
  rintro e w' ⟨⟨sc, sd, sn, si, rfl, hF, hR⟩, hA⟩
  obtain rfl := hR.1 rfl
  exact ⟨⟨sc, sd, sn, rfl, hF⟩, hA⟩
end Go.Proofs.YtfaflipphkoiiaaDoor.Pr
