/-
  The parsers of items without inner items, under one contract.
-/
import Derived.Test.YtfaflipphkoiiaaDoorParMap
import Derived.Test.YtfaflipphkoiiaaDoorParGenB
import Derived.Test.YtfaflipphkoiiaaDoorParGenC
import Derived.Test.YtfaflipphkoiiaaDoorParGenE
import Derived.Test.YtfaflipphkoiiaaDoorParHoli
namespace Go.Proofs.YtfaflipphkoiiaaDoor.Pr
open Go.RowKit Mem
open Lx (Tok)
set_option linter.unusedVariables false

/-- Inner items lie in a row of the call's own, each with rows of its own. -/
def RowI (base : Nat) (l : List Flat) (si : Value) (W : World) : Prop :=
  (l = [] → si = nil) ∧ ∃ vs : List (Value × Value × Value), vs.length = l.length ∧ W.ownsRow base 57 33 si l.length ((l.zip vs).flatMap fun p => icells p.1 p.2.1 p.2.2.1 p.2.2.2 nil) ∧ ∀ p ∈ l.zip vs, FlatOK base p.1 p.2.1 p.2.2.1 p.2.2.2 W
theorem RowI.nil (base : Nat) (W : World) : RowI base [] nil W := ⟨fun _ => rfl, [], rfl, World.ownsRow_nil _ _ _ _, fun p hp => by cases hp⟩
/-- How a parser of an item ends. -/
def ItemEnd (E : Env) (b : Nat) (x : Item) (s' : St) (W : World) (e : Ending) (w' : World) : Prop :=
  (∃ sc sd sn si, e = .returned (.agg (icells x.flat sc sd sn si).toArray) ∧ FlatOK W.heap.size x.flat sc sd sn w' ∧ RowI W.heap.size x.inner si w') ∧ After E b s' W w'
/-- The functions of the kinds. -/
def fid (k : Nat) : Nat := match k with
  | 1 => 61 | 2 => 62 | 3 => 63 | 4 => 64 | 5 => 65
  | 6 => 66 | 7 => 67 | 8 => 68 | 9 => 88 | 10 => 89
  | 11 => 90 | 12 => 91 | 13 => 69 | _ => 92
/-- The parser of an item of a kind, after its key word. -/
def bodyI (k : Nat) : M Item := if k = 13 then template else bnd (body k) fun f => ret ⟨f, []⟩

theorem flatEnd {E : Env} {b : Nat} {m : M Flat} {s : St} {W : World} {f : Nat} (h : Calls Tryd.prog f #[.pointer (some ⟨b, 0, none⟩)] W fun e w' => (∃ sc sd sn, e = .returned (.agg (icells (m s).1 sc sd sn Pr.nil).toArray) ∧ FlatOK W.heap.size (m s).1 sc sd sn w') ∧ After E b (m s).2 W w') :
    Calls Tryd.prog f #[.pointer (some ⟨b, 0, none⟩)] W fun e w' => ItemEnd E b ((bnd m fun f => ret ⟨f, []⟩) s).1 ((bnd m fun f => ret (⟨f, []⟩ : Item)) s).2 W e w' :=
  h.mono fun e w' ⟨⟨sc, sd, sn, he, hf⟩, hA⟩ => ⟨⟨sc, sd, sn, Pr.nil, he, hf, RowI.nil _ _⟩, hA⟩
theorem body_any (k : Nat) (hk : k = 1 ∨ k = 2 ∨ k = 3 ∨ k = 4 ∨ k = 5 ∨ k = 6 ∨ k = 7 ∨ k = 8 ∨ k = 9 ∨ k = 10 ∨ k = 11 ∨ k = 12 ∨ k = 14) (E : Env) (b : Nat) (s : St) (W : World) (h : PW E b s W) :
    Calls Tryd.prog (fid k) #[.pointer (some ⟨b, 0, none⟩)] W fun e w' => ItemEnd E b (bodyI k s).1 (bodyI k s).2 W e w' := by
  rcases hk with rfl | rfl | rfl | rfl | rfl | rfl | rfl | rfl | rfl | rfl | rfl | rfl | rfl
  · exact flatEnd (party_any E b s W h)
  · exact flatEnd (role_any E b s W h)
  · exact flatEnd (unit_any E b s W h)
  · exact flatEnd (weekend_any E b s W h)
  · exact flatEnd (holiday_any E b s W h)
  · exact flatEnd (spanDef_any E b s W h)
  · exact flatEnd (sumDef_any E b s W h)
  · exact flatEnd (act_any E b s W h)
  · exact flatEnd (duty_any E b s W h)
  · exact flatEnd (ban_any E b s W h)
  · exact flatEnd (option_any E b s W h)
  · exact flatEnd (watch_any E b s W h)
  · exact flatEnd (incl_any E b s W h)
theorem ent_party (args : Array Value) (W : World) : (callFunc 61 args).run Tryd.prog W = .ok (.enter 61 args) W := by kernel_rfl
end Go.Proofs.YtfaflipphkoiiaaDoor.Pr
