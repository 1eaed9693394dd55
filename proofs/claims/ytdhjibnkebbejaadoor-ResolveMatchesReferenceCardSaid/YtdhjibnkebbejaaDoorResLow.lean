/-
  What the reference's function Group returns.
-/
import Derived.Test.YtdhjibnkebbejaaDoorResLook
import Derived.Test.YtdhjibnkebbejaaDoorBlk
namespace Go.Proofs.YtdhjibnkebbejaaDoor.Rs
open Go.RowKit Mem Vw
set_option linter.unusedVariables false
set_option linter.unusedSimpArgs false

theorem rgroup_any (k : Int) (w : World) : Calls Tryd.prog 31 #[.int .i64 k] w fun e w' => e = .returned (.int .i64 ((group k : Nat) : Int)) ∧ w' = w := by
  have hc : ∃ g : Nat, group k = g ∧ ((k = 1 ∧ g = 1) ∨ (k = 2 ∧ g = 2) ∨ (k = 3 ∧ g = 3) ∨ (k = 8 ∧ g = 4) ∨ (k = 9 ∧ g = 5) ∨ (k = 10 ∧ g = 5) ∨ (k = 11 ∧ g = 5) ∨ (k = 12 ∧ g = 5) ∨ (k ≠ 1 ∧ k ≠ 2 ∧ k ≠ 3 ∧ k ≠ 8 ∧ k ≠ 9 ∧ k ≠ 10 ∧ k ≠ 11 ∧ k ≠ 12 ∧ g = 0)) := by
    refine ⟨_, rfl, ?_⟩
    unfold group
    repeat' split
    all_goals omega
  obtain ⟨g, hg, hc⟩ := hc
  rw [hg]
  clear hg
  go_enter Tryd.func31, Tryd.ntmps31
  rcases hc with ⟨rfl, rfl⟩ | ⟨rfl, rfl⟩ | ⟨rfl, rfl⟩ | ⟨rfl, rfl⟩ | ⟨rfl, rfl⟩ | ⟨rfl, rfl⟩ | ⟨rfl, rfl⟩ | ⟨rfl, rfl⟩ | ⟨h1, h2, h3, h8, h9, h10, h11, h12, rfl⟩
  all_goals (go_wp2_with fail; go_ret; exact ⟨rfl, rfl⟩)
theorem Group_any (p : Item × Sl) (w : World) : Calls Tryd.prog 17 #[.agg (ic p).toArray] w fun e w' => e = .returned (.int .i64 ((group p.1.kind : Nat) : Int)) ∧ Below w.heap.size w w' := by
  obtain ⟨x, sc, sd, sn, si⟩ := p
  obtain ⟨u, hu⟩ : ∃ u, w.alloc (.cells (ic (x, sc, sd, sn, si)).toArray 55) = u := ⟨_, rfl⟩
  have hb : u.heap[w.heap.size]? = some (.cells (ic (x, sc, sd, sn, si)).toArray 55 (0, 0)) := by rw [← hu]; exact blk_newn rfl
  have HBL : Hid (Below w.heap.size w u) := by rw [← hu]; exact (Below.refl _ w).alloc (Nat.le_refl _) _
  have c0 : u.cell? ⟨w.heap.size, 0, none⟩ = some (.int .i64 x.kind) := cell_of_blk hb 0
  have HG := Lib.hid (rgroup_any x.kind u)
  have HU := Lib.hid hu
  clear hb hu
  go_enter Tryd.func17, Tryd.ntmps17
  go_upto_region 1 with fail
  rw [HU.out]
  clear HU
  go_wp2_with fail
  refine HG.out.mono ?_
  rintro e w5 ⟨rfl, rfl⟩
  go_wp2_with fail
  go_ret
  exact ⟨rfl, HBL.out⟩
end Go.Proofs.YtdhjibnkebbejaaDoor.Rs
