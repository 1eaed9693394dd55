/-
  Time zones in plain Lean: the stretches of equal offset, local times, instants. No condition.
-/
import Derived.Below
namespace Go.Proofs.Ytmjidplondkomaa.Zn

/-- A zone: its offset and its changes (instant, offset). -/
structure Zone where
  off : Int
  chs : List (Int × Int)

/-- The stretch with a number: from, to, offset. -/
def frm (z : Zone) (k : Nat) : Int := if k = 0 then 0 else (z.chs.getD (k - 1) (0, 0)).1
def tto (z : Zone) (k : Nat) : Int := if k < z.chs.length then (z.chs.getD k (0, 0)).1 else 105190560
def ofs (z : Zone) (k : Nat) : Int := if k = 0 then z.off else (z.chs.getD (k - 1) (0, 0)).2
/-- How many stretches there are. -/
def cnt (z : Zone) : Nat := z.chs.length + 1

def okOff (o : Int) : Bool := decide (-840 ≤ o) && decide (o ≤ 840)
/-- The changes are far enough apart, before the end, with permitted offsets. -/
def okFrom : Int → List (Int × Int) → Bool
  | _, [] => true
  | last, (a, o) :: r => okOff o && decide (last + 5760 < a) && decide (a < 105190560) && okFrom a r
def valid (z : Zone) : Bool := okOff z.off && decide (z.chs.length ≤ 40) && okFrom 0 z.chs
end Go.Proofs.Ytmjidplondkomaa.Zn
