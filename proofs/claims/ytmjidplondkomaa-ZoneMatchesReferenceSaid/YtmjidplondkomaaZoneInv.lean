/-
  Beginnings of the statements about zones: the zone in memory.
-/
import Derived.Test.YtmjidplondkomaaZoneOpen
import Derived.Test.YtmjidplondkomaaZoneFacts
namespace Go.Proofs.Ytmjidplondkomaa.Zn
open Go.RowKit Go.Shelf
set_option linter.unusedVariables false

/-- A zone lies in memory at a block. -/
def ZW (w : World) (b : Nat) (z : Zone) (A : Option Addr) (cap : Nat) (W : World) : Prop :=
  W.heap[b]? = some (.cells #[.int .i64 z.off, .slice A z.chs.length cap] 24 (0, 0)) ∧ ChRow W A z.chs ∧ Below w.heap.size w W
theorem ZW.below {w W W' : World} {b : Nat} {z : Zone} {A : Option Addr} {cap : Nat} (h : ZW w b z A cap W) (hb : Below W.heap.size W W') : ZW w b z A cap W' :=
  ⟨(hb.block _ (lt_of_blk h.1)).trans h.1, h.2.1.below hb, h.2.2.trans (hb.mono h.2.2.size)⟩
theorem ZW.cells {w W : World} {b : Nat} {z : Zone} {A : Option Addr} {cap : Nat} (h : ZW w b z A cap W) : W.cell? ⟨b, 0, none⟩ = some (.int .i64 z.off) ∧ W.cell? ⟨b, 1, none⟩ = some (.slice A z.chs.length cap) :=
  ⟨cell_of_blk h.1 0, cell_of_blk h.1 1⟩
theorem ZW.start (w : World) (z : Zone) (A : Option Addr) (cap : Nat) (h : ChRow w A z.chs) : ZW w w.heap.size z A cap (w.alloc (.cells #[.int .i64 z.off, .slice A z.chs.length cap] 24)) :=
  ⟨heap_alloc_new w _, h.below (by go_grown), by go_grown⟩
theorem ZW.drewN {w W : World} {b : Nat} {z : Zone} {A : Option Addr} {cap : Nat} (h : ZW w b z A cap W) (n : Nat) : ZW w b z A cap (W.drewN n) :=
  h.below (below_drewN (Below.refl _ _) n)

theorem localOf_bad (z : Zone) (t : Int) : (∃ e, (e = 1 ∨ e = 2) ∧ localOf z t = (0, 0, e)) ∨ (valid z = true ∧ 0 ≤ t ∧ t < 105190560 ∧ 0 ≤ loc z t ∧ loc z t < 105190560 ∧ localOf z t = (loc z t / 1440, loc z t % 1440, 0)) := by
  unfold localOf
  split
  · rename_i h
    split
    · rename_i h2; exact .inr ⟨h.1, h.2.1, h.2.2, h2.1, h2.2, rfl⟩
    · exact .inl ⟨2, .inr rfl, rfl⟩
  · exact .inl ⟨1, .inl rfl, rfl⟩
end Go.Proofs.Ytmjidplondkomaa.Zn
