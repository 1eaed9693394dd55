/-
  The reference's comparison of trees returns true for trees that are equal apart from their offsets.
-/
import Derived.Test.YtfficindoecpfaaGreatDoorPkInc
import Derived.Test.YtfficindoecpfaaGreatDoorPkInv
import Derived.Laws.StructEq
import Derived.Deep.Cut
set_option maxHeartbeats 64000000
set_option maxRecDepth 100000
set_option linter.unusedVariables false
set_option linter.unusedSimpArgs false
namespace Go.Proofs.YtfficindoecpfaaGreatDoor.Pt
open Go.RowKit Mem Vw Rs
open Ic (RowB DT Lay LayL tsz jv9 jv4)
theorem ne_named (a0:ByteArray) (a1:Int) (W:World):(binOp .neq 109 (.agg #[.string a0,.int .i64 a1]) (.agg #[.string a0,.int .i64 a1])).run Tryz.prog W= .ok (.bool false) W:=by
 go_simp
theorem ne_span (a0:Int) (a1:Bool) (a2:ByteArray) (W:World):(binOp .neq 41 (.agg #[.int .i64 a0,.bool a1,.string a2]) (.agg #[.int .i64 a0,.bool a1,.string a2])).run Tryz.prog W= .ok (.bool false) W:=by
 go_simp
theorem ne_civil (a0:Int) (a1:Int) (a2:Int) (W:World):(binOp .neq 23 (.agg #[.int .i64 a0,.int .i64 a1,.int .i64 a2]) (.agg #[.int .i64 a0,.int .i64 a1,.int .i64 a2])).run Tryz.prog W= .ok (.bool false) W:=by
 go_simp
theorem eq_civil (a0:Int) (a1:Int) (a2:Int) (W:World):(binOp .eql 23 (.agg #[.int .i64 a0,.int .i64 a1,.int .i64 a2]) (.agg #[.int .i64 a0,.int .i64 a1,.int .i64 a2])).run Tryz.prog W= .ok (.bool true) W:=by
 go_simp
theorem ne_ratio (a0:Int) (a1:Int) (W:World):(binOp .neq 44 (.agg #[.int .i64 a0,.int .i64 a1]) (.agg #[.int .i64 a0,.int .i64 a1])).run Tryz.prog W= .ok (.bool false) W:=by
 go_simp
theorem ne_days (a b c d e f g:Bool) (W:World):(binOp .neq 45 (.agg #[.bool a,.bool b,.bool c,.bool d,.bool e,.bool f,.bool g]) (.agg #[.bool a,.bool b,.bool c,.bool d,.bool e,.bool f,.bool g])).run Tryz.prog W= .ok (.bool false) W:=by
 cases a<;>cases b<;>cases c<;>cases d<;>cases e<;>cases f<;>cases g<;>kernel_rfl
theorem row_drewN {W:World} {v:Value} {z:Nat} {xs:List (List Value)} (h:Row W v z xs) (m:Nat):Row (W.drewN m) v z xs:=h.below (below_drewN (Below.refl _ W) m)
theorem jz5 {P:Program} {ops:Array Oper} {rest:List Oper} {op:Oper} {a:Act} {w:World} {Q:Exit→Act→World→Prop} (hw:Region.wanted op (yielded ops a.tmps)=true) (ty:TypeId) (x:Operand) (ho:op.op= .load ty x)
  (b:Nat) (hx:a.eval x= .pointer (some ⟨b,0,none⟩)) (cs:List Value) (t:TypeId) (d:TypeDesc) (hc:w.heap[b]?=some (.cells cs.toArray t (0,0)))
  (hu:P.underlying ty=some d) (hd:d.isRow=true) (hi:(P.info? ty).map (·.size)=some cs.length)
  (h:wpList P ops Q rest (a.put op.dst (.agg cs.toArray)) w):wpList P ops Q (op::rest) a w:=
 wpList_step fun _ hK=>by rw [if_pos hw];exact wp_load_mid ty x ho b 0 hx cs d (At.of_blk hc) hu hd hi (hK _ _ h)
end Go.Proofs.YtfficindoecpfaaGreatDoor.Pt
