/-
  Include: the plain law of copies, at the statement's template.
-/
import Derived.Test.YticakdajhmfpoaaIncLaws3
import Derived.Test.YticakdajhmfpoaaIncExp
namespace Go.Proofs.Yticakdajhmfpoaa.Ic
open Mem Vw Rs
set_option linter.unusedVariables false
set_option linter.unusedSimpArgs false

def itC : Rs.Item := ⟨0, [], 0, [], [], 0, 0, ⟨0, false, []⟩, ⟨0, false, []⟩, [], [], [], ⟨0, 0⟩, [], [], false, [], [], [false, false, false, false, false, false, false], [], []⟩
def letter (i : Nat) : UInt8 := UInt8.ofNat (97 + i)
def qr : Rs.Bytes := [63, 114]
def qa : Rs.Bytes := [63, 97]
def z9 : Rs.Bytes := [122, 57]
/-- A clause of the template. -/
def copI (k d : Int) (i : Nat) : Rs.Item := { itC with kind := 9 + k.tmod 4, name := [letter i], of_ := qr, act := qa, times := i, within := ⟨d, false, []⟩, fin := decide (99 < k), conds := if i = 0 then [] else [⟨[letter (i - 1)], 2⟩, ⟨z9, 3⟩] }
def cop (ks ds : List Int) (i : Nat) : Rs.Item := copI (ks.getD i 0) (ds.getD i 0) i
def pdot (i : Nat) : Rs.Bytes := [112, 46, letter i]
/-- What the inclusion leads to. -/
def copO (ks ds : List Int) (role act : Rs.Bytes) (i : Nat) : Rs.Item := { cop ks ds i with name := pdot i, of_ := role, act := act, pos := 5, conds := if i = 0 then [] else [⟨pdot (i - 1), 2⟩, ⟨z9, 3⟩] }
def tmplI : Rs.Item := { itC with kind := 13, name := [116], names := [qr, qa] }
def inclI (role act : Rs.Bytes) : Rs.Item := { itC with kind := 14, of_ := [116], name := [112], names := [role, act], pos := 5 }
def copTs (ks ds : List Int) (n : Nat) : List Tree := (List.range n).map fun i => .node (cop ks ds i) []
def tmplT (ks ds : List Int) (n : Nat) : Tree := .node tmplI (copTs ks ds n)
theorem tmod4 {k : Int} (h : 0 ≤ k) : 0 ≤ k.tmod 4 ∧ k.tmod 4 ≤ 3 := by
  have h1 := Int.tmod_nonneg 4 h
  have h2 := Int.tmod_lt_of_pos k (b := 4) (by decide)
  omega
theorem cop_clause {ks ds : List Int} (h : ∀ z ∈ ks, 0 ≤ z) (i : Nat) : isClause (cop ks ds i).kind = true := by
  have h0 : 0 ≤ ks.getD i 0 := by
    rw [List.getD_eq_getElem?_getD]
    cases hk : ks[i]? with
    | none => exact Int.le_refl _
    | some z => exact h z (List.mem_of_getElem? hk)
  obtain ⟨h1, h2⟩ := tmod4 h0
  show isClause (9 + (ks.getD i 0).tmod 4) = true
  unfold isClause
  simp only [Bool.or_eq_true, decide_eq_true_eq]
  omega
theorem cop_not14 {ks ds : List Int} (h : ∀ z ∈ ks, 0 ≤ z) (i : Nat) : (cop ks ds i).kind ≠ 14 := (clause_not (cop_clause h i)).2
theorem arg_r (role act : Rs.Bytes) : arg [qr, qa] [role, act] qr = some role := rfl
theorem arg_a (role act : Rs.Bytes) : arg [qr, qa] [role, act] qa = some act := rfl
theorem arg_e (role act : Rs.Bytes) : arg [qr, qa] [role, act] [] = none := rfl
theorem arg_z (role act : Rs.Bytes) : arg [qr, qa] [role, act] z9 = none := rfl
theorem arg_l (role act : Rs.Bytes) (j : Nat) : arg [qr, qa] [role, act] [letter j] = none := by
  have h1 : ¬ (qr = [letter j]) := by unfold qr; simp
  have h2 : ¬ (qa = [letter j]) := by unfold qa; simp
  unfold arg
  rw [if_neg (fun e => h1 e.2)]
  unfold arg
  rw [if_neg (fun e => h2 e.2)]
  rfl
theorem local_l {ks ds : List Int} (h : ∀ z ∈ ks, 0 ≤ z) {n j : Nat} (hj : j < n) : isLocal (tmplT ks ds n) [letter j] = true := by
  unfold isLocal
  rw [Bool.or_eq_true]
  left
  rw [List.any_eq_true]
  refine ⟨.node (cop ks ds j) [], List.mem_map.2 ⟨j, List.mem_range.2 hj, rfl⟩, ?_⟩
  rw [Bool.and_eq_true]
  exact ⟨cop_clause h j, by simp [Tree.h, cop, copI]⟩
theorem local_z {ks ds : List Int} {n : Nat} : isLocal (tmplT ks ds n) z9 = false := by
  unfold isLocal
  have h1 : ((tmplT ks ds n).l.any fun y => isClause y.h.kind && decide (y.h.name = z9)) = false := by
    rw [List.any_eq_false]
    intro y hy
    obtain ⟨i, _, rfl⟩ := List.mem_map.1 hy
    simp [Tree.h, cop, copI, z9]
  rw [h1]
  rfl
theorem inst_cop {ks ds : List Int} (h : ∀ z ∈ ks, 0 ≤ z) (role act : Rs.Bytes) {n i : Nat} (hi : i < n) : (Tree.node { (inst (tmplT ks ds n) (inclI role act) (.node (cop ks ds i) [])).h with pos := 5 } (inst (tmplT ks ds n) (inclI role act) (.node (cop ks ds i) [])).l) = .node (copO ks ds role act i) [] := by
  have hk : (Tree.node (cop ks ds i) []).h.kind ≠ 14 := cop_not14 h i
  have hr : repl (tmplT ks ds n).h.names (inclI role act).names qr = role := by show (arg [qr, qa] [role, act] qr).getD qr = role; rw [arg_r]; rfl
  have ha : repl (tmplT ks ds n).h.names (inclI role act).names qa = act := by show (arg [qr, qa] [role, act] qa).getD qa = act; rw [arg_a]; rfl
  have he : repl (tmplT ks ds n).h.names (inclI role act).names [] = [] := rfl
  have hc : (cop ks ds i).conds.map (instCond (tmplT ks ds n) (inclI role act)) = (copO ks ds role act i).conds := by
    unfold copO cop copI
    dsimp only
    by_cases h0 : i = 0
    · rw [if_pos h0, if_pos h0]; rfl
    · rw [if_neg h0, if_neg h0]
      have h1 : instCond (tmplT ks ds n) (inclI role act) ⟨[letter (i - 1)], 2⟩ = ⟨pdot (i - 1), 2⟩ := by
        unfold instCond
        rw [show arg (tmplT ks ds n).h.names (inclI role act).names [letter (i - 1)] = none from arg_l role act (i - 1)]
        dsimp only
        rw [if_pos (local_l h (by omega))]
        rfl
      have h2 : instCond (tmplT ks ds n) (inclI role act) ⟨z9, 3⟩ = ⟨z9, 3⟩ := by
        unfold instCond
        rw [show arg (tmplT ks ds n).h.names (inclI role act).names z9 = none from arg_z role act]
        dsimp only
        rw [local_z]
        rfl
      rw [List.map_cons, List.map_cons, List.map_nil, h1, h2]
  unfold inst
  rw [if_neg hk]
  show Tree.node { cop ks ds i with name := pdot i, of_ := repl (tmplT ks ds n).h.names (inclI role act).names qr, act := repl (tmplT ks ds n).h.names (inclI role act).names qa, by_ := repl (tmplT ks ds n).h.names (inclI role act).names [], til := repl (tmplT ks ds n).h.names (inclI role act).names [], unit := repl (tmplT ks ds n).h.names (inclI role act).names [], sum := repl (tmplT ks ds n).h.names (inclI role act).names [], to_ := repl (tmplT ks ds n).h.names (inclI role act).names [], within := { (cop ks ds i).within with name := repl (tmplT ks ds n).h.names (inclI role act).names [] }, grace := { (cop ks ds i).grace with name := repl (tmplT ks ds n).h.names (inclI role act).names [] }, conds := (cop ks ds i).conds.map (instCond (tmplT ks ds n) (inclI role act)), pos := 5 } [] = _
  rw [hc]
  rw [hr, ha, he]
  rfl
/-- The statement's template, included. -/
theorem copies_law {ks ds : List Int} (h : ∀ z ∈ ks, 0 ≤ z) (role act : Rs.Bytes) {n : Nat} (hn : n ≤ 20) :
    expand ⟨[], ⟨0, 0, 0⟩, 0, [.node (inclI role act) [], tmplT ks ds n]⟩ = (⟨[], ⟨0, 0, 0⟩, 0, (List.range n).map fun i => .node (copO ks ds role act i) []⟩, []) := by
  have hsz : ∀ l : List Nat, sizes (l.map fun i => Tree.node (cop ks ds i) []) = l.length := fun l => by
    induction l with
    | nil => rfl
    | cons a l ih => rw [List.map_cons, sizes_cons, ih, List.length_cons]; show 0 + 1 + _ = _; omega
  have hlen : (tmplT ks ds n).l.length = n := by show (copTs ks ds n).length = n; unfold copTs; simp
  have hl := law_copies (s := ⟨[], ⟨0, 0, 0⟩, 0, [.node (inclI role act) [], tmplT ks ds n]⟩) (x := .node (inclI role act) []) (t := tmplT ks ds n) rfl rfl rfl rfl rfl rfl (by show 1 ≤ 24; decide) (fun y hy => by
    obtain ⟨i, hi, rfl⟩ := List.mem_map.1 hy
    have hi := List.mem_range.1 hi
    have h2 := inst_cop (ks := ks) (ds := ds) h role act hi
    have h3 := (Tree.node.inj h2).1
    refine ⟨cop_clause h i, ?_, ?_⟩
    · have e1 := congrArg Rs.Item.within h3
      have e2 := congrArg Rs.Item.grace h3
      have e3 := congrArg Rs.Item.sum h3
      exact ⟨by show (inst (tmplT ks ds n) (inclI role act) (.node (cop ks ds i) [])).h.within.name = []; rw [show (inst (tmplT ks ds n) (inclI role act) (.node (cop ks ds i) [])).h.within = _ from e1]; rfl, by show (inst (tmplT ks ds n) (inclI role act) (.node (cop ks ds i) [])).h.grace.name = []; rw [show (inst (tmplT ks ds n) (inclI role act) (.node (cop ks ds i) [])).h.grace = _ from e2]; rfl, by show (inst (tmplT ks ds n) (inclI role act) (.node (cop ks ds i) [])).h.sum = []; rw [show (inst (tmplT ks ds n) (inclI role act) (.node (cop ks ds i) [])).h.sum = _ from e3]; rfl⟩
    · have e1 := congrArg Rs.Item.name h3
      rw [show (inst (tmplT ks ds n) (Tree.node (inclI role act) []).h (.node (cop ks ds i) [])).h.name = _ from e1]
      show 3 ≤ 24
      decide) (by rw [hlen]; omega) (by
    show sizes [_, _] ≤ 600
    rw [sizes_cons, sizes_cons]
    show 0 + 1 + (sizes (copTs ks ds n) + 1 + 0) ≤ 600
    unfold copTs
    rw [hsz, List.length_range]
    omega)
  rw [hl]
  have hm : (tmplT ks ds n).l.map (fun y => Tree.node { (inst (tmplT ks ds n) (Tree.node (inclI role act) []).h y).h with pos := (Tree.node (inclI role act) []).h.pos } (inst (tmplT ks ds n) (Tree.node (inclI role act) []).h y).l) = (List.range n).map fun i => .node (copO ks ds role act i) [] := by
    show (copTs ks ds n).map _ = _
    unfold copTs
    rw [List.map_map]
    apply List.map_congr_left
    intro i hi
    exact inst_cop h role act (List.mem_range.1 hi)
  rw [hm]
end Go.Proofs.Yticakdajhmfpoaa.Ic
