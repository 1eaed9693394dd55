/-
  What the law's function named returns: the name with the text, if it is not empty. Condition: both together are no longer than a text may be.
-/
import Derived.Test.YtdhjibnkebbejaaDoorResSmall
import Derived.Laws.Concat
import Derived.Test.YtdhjibnkebbejaaDoorResLawR
namespace Go.Proofs.YtdhjibnkebbejaaDoor.Rs
open Go.RowKit Mem Vw
set_option linter.unusedVariables false
set_option linter.unusedSimpArgs false

theorem bytes_add (n u : Bytes) : (⟨n.toArray⟩ ++ ⟨u.toArray⟩ : ByteArray) = ⟨(n ++ u).toArray⟩ := by
  apply ByteArray.ext
  simp [ByteArray.data_append]
theorem run_add (n u : Bytes) (h : n.length + u.length ≤ maxLen) (w : World) : (Op.stringOp .add ⟨n.toArray⟩ ⟨u.toArray⟩).run Tryd.prog w = .ok (.string ⟨(n ++ u).toArray⟩) w := by
  rw [← bytes_add]
  exact run_string_add_sum w _ _ h
set_option maxRecDepth 100000 in
set_option maxHeartbeats 2000000 in
theorem named_any (n u : Bytes) (W : World) (h : n.length + u.length ≤ maxLen) :
    Calls Tryd.prog 39 #[.string ⟨n.toArray⟩, .string ⟨u.toArray⟩] W fun e w' => e = .returned (.string ⟨(nm u n).toArray⟩) ∧ w' = W := by
  by_cases hn : n = []
  · subst hn
    have e0 : nm u [] = [] := if_pos rfl
    rw [e0]
    clear e0 h
    go_enter Tryd.func39, Tryd.ntmps39
    go_wp2_with fail
    go_ret
    exact ⟨rfl, rfl⟩
  · have e0 : nm u n = n ++ u := if_neg hn
    rw [e0]
    have hadd := run_add n u h
    have he : List.isEmpty n = false := by simpa using hn
    clear e0 h hn
    go_enter Tryd.func39, Tryd.ntmps39
    go_wp2_with fail
    go_ret
    exact ⟨rfl, rfl⟩
end Go.Proofs.YtdhjibnkebbejaaDoor.Rs
