/-
  The items of a tree stand in the text at their offsets, in order.
-/
import Derived.Test.YtfaflipphkoiiaaDoorPkParB
import Derived.Test.YtfaflipphkoiiaaDoorParStands
set_option linter.unusedVariables false
namespace Go.Proofs.YtfaflipphkoiiaaDoor.Pr
open Lx (Tok skip gapLen_le)
def TokAt (s:Bytes):Nat→List Tok→Prop
 |_,[]=>True
 |a,t::ts=>a≤t.pos∧t.pos+t.text.length≤s.length∧(s.drop t.pos).take t.text.length=t.text∧TokAt s (t.pos+t.text.length) ts
theorem TokAt.le {s:Bytes} {a b:Nat} {ts:List Tok} (h:TokAt s b ts) (hab:a≤b):TokAt s a ts:=by
 cases ts with
 |nil=>trivial
 |cons t ts=>exact ⟨Nat.le_trans hab h.1,h.2⟩
theorem TokAt.suf {s:Bytes} {a:Nat} {ts us:List Tok} (h:TokAt s a ts) (hs:us<:+ts):TokAt s a us:=by
 induction ts generalizing a with
 |nil=>rw [List.suffix_nil.1 hs];trivial
 |cons t ts ih=>
  rcases List.suffix_cons_iff.1 hs with e|e
  ·rw [e];exact h
  ·exact ih (h.2.2.2.le (by have:=h.1;omega)) e
end Go.Proofs.YtfaflipphkoiiaaDoor.Pr
