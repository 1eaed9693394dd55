/-
  The examples of the law's head: what they answer.
-/
import Derived.Test.YticlmkfifpkdpaaDoorDlEvPlain
namespace Go.Proofs.YticlmkfifpkdpaaDoor.Dl
set_option linter.unusedVariables false
set_option linter.unusedSimpArgs false
def C0 : Cal := ⟨[false, false, false, false, false, true, true], []⟩
def L0 : List When := [⟨true, 3, 1000⟩]
def E0 : Term := .mk 2 0 0 false []
theorem day_E (c : Cal) (d m : Int) (h : isDay d = true) : day c [⟨true, d, m⟩] E0 = some d := by
  unfold E0
  rw [day_mk]
  simp [Term.kids, dayL, node, Term.kind, evAt, Term.ev, inRange, h]
theorem ok_C0 : C0.ok = true := by decide
theorem head1 : eval (.mk 3 960 0 false []) C0 L0 = (4, true, 0) := by
  rw [eval_good ok_C0 (by rfl) (by decide)]
  rw [show allKnown L0 (.mk 3 960 0 false []) = true by rfl]
  rw [day_mk]
  simp [Term.kids, dayL, node, Term.kind, evAt, Term.ev, Term.n, inRange, L0, isDay]
theorem add_3 : add C0 3 3 = some 8 := by
  unfold add
  rw [if_neg (by decide), search_iff (by decide)]
  refine ⟨by decide, by decide, by decide, ?_⟩
  intro j hj
  have : j < 4 := by omega
  rcases j with _ | _ | _ | _ | j <;> first | decide | omega
theorem add_4 : add C0 4 0 = some 4 := by
  unfold add
  rw [if_pos rfl, search_iff (by decide)]
  refine ⟨by decide, by decide, by decide, ?_⟩
  intro j hj
  omega
theorem add_5 : add C0 5 0 = some 7 := by
  unfold add
  rw [if_pos rfl, search_iff (by decide)]
  refine ⟨by decide, by decide, by decide, ?_⟩
  intro j hj
  have : j < 2 := by omega
  rcases j with _ | _ | j <;> first | decide | omega
theorem head2 : eval (.mk 4 3 0 true [E0]) C0 L0 = (8, true, 0) := by
  rw [eval_good ok_C0 (by rfl) (by decide)]
  rw [show allKnown L0 (.mk 4 3 0 true [E0]) = true by rfl]
  rw [day_mk]
  simp [Term.kids, dayL, L0, day_E C0 3 1000 (by decide), node, Term.kind, Term.n, Term.bus, add_3, inRange, isDay]
theorem months_3 : months 3 1 = some 34 := by
  rw [months_eq (c := ⟨1990, 1, 4⟩) (by decide)]
  decide
theorem day_D (c : Cal) (l : List When) (d : Int) (h : isDay d = true) : day c l (.mk 1 d 0 false []) = some d := by
  rw [day_mk]
  simp [Term.kids, dayL, node, Term.kind, Term.n, inRange, h]
theorem day_M : day C0 L0 (.mk 5 1 0 false [E0]) = some 34 := by
  rw [day_mk]
  simp [Term.kids, dayL, L0, day_E C0 3 1000 (by decide), node, Term.kind, Term.n, Term.bus, months_3, inRange, isDay]
theorem head3 : eval (.mk 8 0 0 false [.mk 1 10 0 false [], .mk 5 1 0 false [E0]]) C0 L0 = (34, true, 0) := by
  rw [eval_good ok_C0 (by rfl) (by decide)]
  rw [show allKnown L0 (.mk 8 0 0 false [.mk 1 10 0 false [], .mk 5 1 0 false [E0]]) = true by rfl]
  rw [day_mk]
  simp [Term.kids, dayL, day_D C0 L0 10 (by decide), day_M, node, Term.kind, Term.n, Term.bus, most1, inRange, isDay, show max (10 : Int) 34 = 34 from rfl]
theorem head4 : eval E0 C0 [⟨false, 0, 0⟩] = (0, false, 0) := by
  rw [eval_good ok_C0 (by rfl) (by decide)]
  rw [show allKnown [⟨false, 0, 0⟩] E0 = false by rfl]
  rfl
theorem head5 : eval (.mk 4 1 0 false [.mk 1 73048 0 false []]) C0 [] = (0, false, 2) := by
  rw [eval_good ok_C0 (by rfl) (by decide)]
  rw [show allKnown [] (.mk 4 1 0 false [.mk 1 73048 0 false []]) = true by rfl]
  rw [day_mk]
  simp [Term.kids, dayL, day_D C0 [] 73048 (by decide), node, Term.kind, Term.n, Term.bus, inRange, isDay]
theorem head6a : eval (.mk 6 0 0 false [E0]) C0 [⟨true, 4, 5⟩] = (4, true, 0) := by
  rw [eval_good ok_C0 (by rfl) (by decide)]
  rw [show allKnown [⟨true, 4, 5⟩] (.mk 6 0 0 false [E0]) = true by rfl]
  rw [day_mk]
  simp [Term.kids, dayL, day_E C0 4 5 (by decide), node, Term.kind, Term.n, Term.bus, add_4, inRange, isDay]
theorem head6b : eval (.mk 6 0 0 false [E0]) C0 [⟨true, 5, 0⟩] = (7, true, 0) := by
  rw [eval_good ok_C0 (by rfl) (by decide)]
  rw [show allKnown [⟨true, 5, 0⟩] (.mk 6 0 0 false [E0]) = true by rfl]
  rw [day_mk]
  simp [Term.kids, dayL, day_E C0 5 0 (by decide), node, Term.kind, Term.n, Term.bus, add_5, inRange, isDay]
theorem head6 : bounds (.mk 6 0 0 false [E0]) C0 [⟨true, 4, 5⟩] [⟨true, 5, 0⟩] = (4, 7, true, 0) := by
  unfold bounds
  rw [head6a, head6b]
  simp [ordered, pairOk]
def T7 : Term := .mk 7 0 0 false [.mk 2 0 7 false [], .mk 3 0 2 false [], .mk 2 0 7 false []]
theorem head7 : valid T7 1000 = true := by rfl
theorem head8 : evs T7 = [2, 7] := by
  have h := evs_ok T7
  have hn : nodes 1 T7 = [(1, T7), (2, .mk 2 0 7 false []), (2, .mk 3 0 2 false []), (2, .mk 2 0 7 false [])] := by rfl
  have hm : ∀ e, e ∈ evs T7 ↔ e = 2 ∨ e = 7 := by
    intro e
    rw [h.mem, hn]
    simp [hasEv, T7, Term.kind, Term.ev]
    omega
  have hp : (evs T7).Pairwise (· < ·) := kept_pair _
  have h2 : [2, 7].Pairwise (fun x y : Int => x < y) := by simp
  refine List.Perm.eq_of_pairwise (le := fun x y : Int => x < y) (fun a b _ _ h1 h2 => by omega) hp h2 ?_
  refine (List.perm_ext_iff_of_nodup (hp.imp (fun h => by omega)) (by simp)).2 ?_
  intro e
  rw [hm]
  simp
theorem head9 : valid E0 1 = true := by rfl
theorem head10 : valid E0 0 = false := by rfl
end Go.Proofs.YticlmkfifpkdpaaDoor.Dl
