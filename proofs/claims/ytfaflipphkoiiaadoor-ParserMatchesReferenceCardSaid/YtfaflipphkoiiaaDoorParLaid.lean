/-
  What the listed variable gives the walks, and that the program's own start meets it.
-/
import Derived.Test.YtfaflipphkoiiaaDoorRows
import Derived.Test.YtfaflipphkoiiaaDoorPkParD
import Derived.ProofKit
import Derived.LaidMore
import Derived.OpenShut
import Derived.Stop.Joined
set_option maxHeartbeats 64000000
set_option maxRecDepth 100000
set_option linter.unusedVariables false
namespace Go.Proofs.YtfaflipphkoiiaaDoor.Pr
open Go.ChangeShapes Go.WideShapes Go.ChangeAt Go.RowKit
def laidW:List (String×DataW Unit):= [("estoppel/parser.weekdays",Rows.laid_estoppel_parser_weekdays)]
theorem gWeek:Tryd.prog.globalNamed "estoppel/parser.weekdays" =some 0:=by kernel_rfl
theorem tWeek:(Tryd.prog.globals[0]?).map (·.type)=some 120:=by kernel_rfl
theorem door_met (os:Os) (args:Array Value):laidMetH Tryd.prog laidW ((World.doorLaid Tryd.prog 400 os).forCall (fun _ _=>0) ⟨#[],args,[]⟩).memory:=
 laidMetH_of_parts3 (fuel:=8) (laidMet_of_run' 8 (by kernel_rfl) (by kernel_rfl)) (by kernel_rfl) (by kernel_rfl)
theorem lt_of_cell0 {w:World} {g:Nat} {o:Nat} {v:Value} (h:w.cell? ⟨g,o,none⟩=some v):g<w.heap.size:=by
 rcases Nat.lt_or_ge g w.heap.size with hlt|hge
 ·exact hlt
 ·unfold World.cell? at h
  simp only [Array.getElem?_eq_none hge] at h
  cases h
theorem wks_of_laid {W:World} (h:laidMetH Tryd.prog laidW W):Wks W:=by
 rw [MakeChecks.laidMetH_plain _ _ _ (by kernel_rfl)] at h
 obtain ⟨ps,⟨g0,t0,cs0,f0,p0,q0,hg0,ht0,hv0,hd0,_,_⟩,_,_⟩:=h
 obtain rfl:=Option.some.inj (gWeek.symm.trans hg0)
 obtain rfl:=Option.some.inj (tWeek.symm.trans ht0)
 have hcell:=fun i=>World.var?_cell hg0 hv0 i
 obtain ⟨xs,m1,rfl,hx1,hlen,hn7,hel⟩:=DataW.trod_array Tryd.underlying120 hd0
 have c1:Tryd.prog.cellsOf 9=1:=by kernel_rfl
 rw [c1] at hel
 have hxs:Rows.laid_estoppel_parser_weekdays (H:=Unit)= .agg (xs.map (·.1)):=by simp only [Prod.mk.injEq] at hx1;exact hx1.1
 unfold Rows.laid_estoppel_parser_weekdays at hxs
 injection hxs with hxs
 have key: ∀i x,wdays[i]?=some x→W.cell? ⟨0,i,none⟩=some (.string ⟨x.toArray⟩):=by
  intro i x hx
  have hi:i<7:=(List.getElem?_eq_some_iff.1 hx).1
  have h1:=hel i hi
  have hxi:i<xs.length:=by omega
  rw [List.getElem?_eq_getElem hxi,Nat.mul_one] at h1
  obtain ⟨s,e1,e2,_⟩:=DataW.trod_string Tryd.underlying9 h1
  have e3:(xs.map (·.1))[i]?=some (.lit (.string s.data.toList)):=by rw [List.getElem?_map,List.getElem?_eq_getElem hxi,e2];rfl
  rw [←hxs] at e3
  have e4:(wdays.map fun x=>(DataW.lit (.string x):DataW Unit))[i]?=some (.lit (.string s.data.toList)):=e3
  rw [List.getElem?_map,hx] at e4
  simp only [Option.map_some,Option.some.injEq,DataW.lit.injEq,Lit.string.injEq] at e4
  rw [hcell i]
  have e5:cs0.toList[i]?=some (.string s):=by
   have:=congrArg (fun l=>l[0]?) e1
   simpa [List.getElem?_take,List.getElem?_drop] using this
  rw [e4]
  simpa using e5
 refine ⟨?_,key⟩
 have h0:=key 0 _ rfl
 exact lt_of_cell0 h0
end Go.Proofs.YtfaflipphkoiiaaDoor.Pr
