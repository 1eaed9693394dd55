/-
  The tables of the parsers of items: maps with constant keys. The parsers of items without inner items, under one contract. What the parser's method item returns. What the parser's method item returns: too many items, and all cases together. The tables of kinds hold the parsers' functions; items inside and outside of templates. Rows of items in memory: how they grow. What the parser's method template returns.
-/
import Derived.Test.YtfaflipphkoiiaaDoorParCirc
import Derived.WideMake
import Derived.Test.YtfaflipphkoiiaaDoorParGenB
import Derived.Test.YtfaflipphkoiiaaDoorParGenC
import Derived.Test.YtfaflipphkoiiaaDoorParGenE
import Derived.Test.YtfaflipphkoiiaaDoorParHoli
import Derived.Test.YtfaflipphkoiiaaDoorPkParB
set_option maxHeartbeats 64000000
set_option maxRecDepth 100000
set_option linter.unusedVariables false
namespace Go.Proofs.YtfaflipphkoiiaaDoor.Pr
open Go.RowKit Mem Go.ChangeMaps
open Lx (Tok)
theorem run_put {w:World} {r clock:Nat} {es:Array MapEntry} {s:ByteArray} {val:Value} (hb:w.heap[r]?=some (.map es clock)) (hf:Instr.findNow .string (.string s) es.toList 0=some none):
  (Instr.mapUpdate 89 (.map (some r)) (.string s) val).run Tryd.prog w= .ok () (setBlock w r (.map (es.push {key:= .string s,val:=val,born:=clock}) (clock+1))):=by
 have hc:(Instr.checkKey false 10000 9 (.string s)).run Tryd.prog w= .ok () w:=MapKept.run_checkKey (k:= .string s) Tryd.underlying9 (by simp [MapKept.IsKey]) false 9999
 simp [Instr.mapUpdate,run_underlying Tryd.underlying89,MapKept.run_getObj_map hb,hc,MapKept.run_findKey Tryd.underlying9 hf,MapKept.run_setObj_map _ hb,Result.andThen,setBlock]
theorem run_look {w:World} {r clock:Nat} {es:Array MapEntry} {s:ByteArray} {i:Nat} {v:Value} (hb:w.heap[r]?=some (.map es clock)) (hf:Instr.findNow .string (.string s) es.toList 0=some (some (i,v))):
  (Instr.lookup 89 (.map (some r)) (.string s) true).run Tryd.prog w= .ok (.tuple #[v,.bool true]) w:=by
 have hc: ∀e,(Instr.checkKey e 10000 9 (.string s)).run Tryd.prog w= .ok () w:=fun e=>MapKept.run_checkKey (k:= .string s) Tryd.underlying9 (by simp [MapKept.IsKey]) e 9999
 simp [Instr.lookup,run_underlying Tryd.underlying89,MapKept.run_getObj_map hb,hc,MapKept.run_findKey Tryd.underlying9 hf,Result.andThen]
theorem run_look_no {w:World} {r clock:Nat} {es:Array MapEntry} {s:ByteArray} (hb:w.heap[r]?=some (.map es clock)) (hf:Instr.findNow .string (.string s) es.toList 0=some none):
  (Instr.lookup 89 (.map (some r)) (.string s) true).run Tryd.prog w= .ok (.tuple #[.nilFunc,.bool false]) w:=by
 have hc: ∀e,(Instr.checkKey e 10000 9 (.string s)).run Tryd.prog w= .ok () w:=fun e=>MapKept.run_checkKey (k:= .string s) Tryd.underlying9 (by simp [MapKept.IsKey]) e 9999
 have hz:(zeroValue 107).run Tryd.prog w= .ok .nilFunc w:=by kernel_rfl
 simp [Instr.lookup,run_underlying Tryd.underlying89,MapKept.run_getObj_map hb,hc,MapKept.run_findKey Tryd.underlying9 hf,hz,Result.andThen]
theorem put_fr {w:World} {r:Nat} {o o2:Obj} (h:w.heap[r]?=some o):(setBlock w r o2).heap[r]?=some o2∧Fr (fun k=>k=r) w (setBlock w r o2):=by
 refine ⟨?_,rfl,rfl,rfl,by simp [setBlock],fun k hk hs=>?_⟩
 ·have:=jq7 h
  simp [setBlock,this]
 ·simp only [setBlock]
  rw [Array.getElem?_setIfInBounds,if_neg (fun e=>hs e.symm)]
theorem jj9 {ops:Array Oper} {rest:List Oper} {o:Oper} {a:Act} {w:World} {Q:Exit→Act→World→Prop} (hg:o.guard=none) (m:Operand) (s:ByteArray) (x:Operand) (hop:o.op= .insert 89 m (.const (.string s)) x) (r clock:Nat) (es:Array MapEntry) (hm:a.eval m= .map (some r)) (val:Value) (hx:a.eval x=val)
  (hb:w.heap[r]?=some (.map es clock)) (hf:Instr.findNow .string (.string s) es.toList 0=some none)
  (h: ∀w',w'.heap[r]?=some (.map (es.push {key:= .string s,val:=val,born:=clock}) (clock+1))→Fr (fun k=>k=r) w w'→wpList Tryd.prog ops Q rest (a.put o.dst undef) w'):wpList Tryd.prog ops Q (o::rest) a w:=by
 refine wpList_plain hg fun K hK=>?_
 unfold Oper.wp
 have hc:a.eval (.const (.string s))= .string s:=rfl
 simp [execOp,hop,hm,hx,hc,run_put hb hf,Result.andThen]
 exact hK _ _ (h _ (put_fr hb).1 (put_fr hb).2)
theorem jj1 {ops:Array Oper} {rest:List Oper} {o:Oper} {a:Act} {w:World} {Q:Exit→Act→World→Prop} (hg:o.guard=none) (m:Operand) (s:ByteArray) (x:Operand) (hop:o.op= .mapUpdate 89 m (.const (.string s)) x) (r clock:Nat) (es:Array MapEntry) (hm:a.eval m= .map (some r)) (val:Value) (hx:a.eval x=val)
  (hb:w.heap[r]?=some (.map es clock)) (hf:Instr.findNow .string (.string s) es.toList 0=some none)
  (h: ∀w',w'.heap[r]?=some (.map (es.push {key:= .string s,val:=val,born:=clock}) (clock+1))→Fr (fun k=>k=r) w w'→wpList Tryd.prog ops Q rest (a.put o.dst undef) w'):wpList Tryd.prog ops Q (o::rest) a w:=by
 refine wpList_plain hg fun K hK=>?_
 unfold Oper.wp
 have hc:a.eval (.const (.string s))= .string s:=rfl
 simp [execOp,hop,hm,hx,hc,run_put hb hf,Result.andThen]
 exact hK _ _ (h _ (put_fr hb).1 (put_fr hb).2)
def innerEnts:Array MapEntry:= #[⟨.string ⟨#[100,117,116,121]⟩,.func (.func 88) #[] #[],0⟩,
 ⟨.string ⟨#[98,97,110]⟩,.func (.func 89) #[] #[],1⟩,
 ⟨.string ⟨#[111,112,116,105,111,110]⟩,.func (.func 90) #[] #[],2⟩,
 ⟨.string ⟨#[119,97,116,99,104]⟩,.func (.func 91) #[] #[],3⟩,
 ⟨.string ⟨#[105,110,99,108,117,100,101]⟩,.func (.func 92) #[] #[],4⟩]
def allEnts:Array MapEntry:= #[⟨.string ⟨#[100,117,116,121]⟩,.func (.func 88) #[] #[],0⟩,
 ⟨.string ⟨#[98,97,110]⟩,.func (.func 89) #[] #[],1⟩,
 ⟨.string ⟨#[111,112,116,105,111,110]⟩,.func (.func 90) #[] #[],2⟩,
 ⟨.string ⟨#[119,97,116,99,104]⟩,.func (.func 91) #[] #[],3⟩,
 ⟨.string ⟨#[105,110,99,108,117,100,101]⟩,.func (.func 92) #[] #[],4⟩,
 ⟨.string ⟨#[112,97,114,116,121]⟩,.func (.func 61) #[] #[],5⟩,
 ⟨.string ⟨#[114,111,108,101]⟩,.func (.func 62) #[] #[],6⟩,
 ⟨.string ⟨#[117,110,105,116]⟩,.func (.func 63) #[] #[],7⟩,
 ⟨.string ⟨#[119,101,101,107,101,110,100]⟩,.func (.func 64) #[] #[],8⟩,
 ⟨.string ⟨#[104,111,108,105,100,97,121]⟩,.func (.func 65) #[] #[],9⟩,
 ⟨.string ⟨#[115,112,97,110]⟩,.func (.func 66) #[] #[],10⟩,
 ⟨.string ⟨#[115,117,109]⟩,.func (.func 67) #[] #[],11⟩,
 ⟨.string ⟨#[97,99,116]⟩,.func (.func 68) #[] #[],12⟩,
 ⟨.string ⟨#[116,101,109,112,108,97,116,101]⟩,.func (.func 69) #[] #[],13⟩]
theorem innerKinds_any (W:World):Calls Tryd.prog 60 #[] W fun e w'=>e= .returned (.map (some W.heap.size))∧w'.heap[W.heap.size]?=some (.map innerEnts 5)∧Fr (fun _=>False) W w':=by
 have hmm:= @run_makeMap Tryd.prog
 go_enter Tryd.func60,Tryd.ntmps60
 go_wp2_with (first|(refine jj9 rfl _ ⟨#[100,117,116,121]⟩ _ rfl W.heap.size 0 #[] rfl _ rfl (kx5 W _) (by kernel_rfl) ?_;intro w1 hb hfr;have hb1:=hdd hb;have hf1:=hdd ((Fr.refl (fun k=>k=W.heap.size) (W.alloc (.map #[] 0))).trans hfr);clear hb hfr)|(refine jj9 rfl _ ⟨#[98,97,110]⟩ _ rfl W.heap.size 1 #[⟨.string ⟨#[100,117,116,121]⟩,.func (.func 88) #[] #[],0⟩] rfl _ rfl hb1.out (by kernel_rfl) ?_;intro w2 hb hfr;have hb2:=hdd hb;have hf2:=hdd (hf1.out.trans hfr);clear hb hfr)|(refine jj9 rfl _ ⟨#[111,112,116,105,111,110]⟩ _ rfl W.heap.size 2 #[⟨.string ⟨#[100,117,116,121]⟩,.func (.func 88) #[] #[],0⟩,⟨.string ⟨#[98,97,110]⟩,.func (.func 89) #[] #[],1⟩] rfl _ rfl hb2.out (by kernel_rfl) ?_;intro w3 hb hfr;have hb3:=hdd hb;have hf3:=hdd (hf2.out.trans hfr);clear hb hfr)|(refine jj9 rfl _ ⟨#[119,97,116,99,104]⟩ _ rfl W.heap.size 3 #[⟨.string ⟨#[100,117,116,121]⟩,.func (.func 88) #[] #[],0⟩,⟨.string ⟨#[98,97,110]⟩,.func (.func 89) #[] #[],1⟩,⟨.string ⟨#[111,112,116,105,111,110]⟩,.func (.func 90) #[] #[],2⟩] rfl _ rfl hb3.out (by kernel_rfl) ?_;intro w4 hb hfr;have hb4:=hdd hb;have hf4:=hdd (hf3.out.trans hfr);clear hb hfr)|(refine jj9 rfl _ ⟨#[105,110,99,108,117,100,101]⟩ _ rfl W.heap.size 4 #[⟨.string ⟨#[100,117,116,121]⟩,.func (.func 88) #[] #[],0⟩,⟨.string ⟨#[98,97,110]⟩,.func (.func 89) #[] #[],1⟩,⟨.string ⟨#[111,112,116,105,111,110]⟩,.func (.func 90) #[] #[],2⟩,⟨.string ⟨#[119,97,116,99,104]⟩,.func (.func 91) #[] #[],3⟩] rfl _ rfl hb4.out (by kernel_rfl) ?_;intro w5 hb hfr;have hb5:=hdd hb;have hf5:=hdd (hf4.out.trans hfr);clear hb hfr))
 go_ret
 refine ⟨rfl,hb5.out,?_⟩
 exact ((Fr.refl (fun _=>False) W).alloc (.map #[] 0)).trans' hf5.out (fun i hi e=>by omega)
theorem allKinds_any (W:World):Calls Tryd.prog 37 #[] W fun e w'=>e= .returned (.map (some W.heap.size))∧w'.heap[W.heap.size]?=some (.map allEnts 14)∧Fr (fun _=>False) W w':=by
 go_enter Tryd.func37,Tryd.ntmps37
 go_wp2_with fail
 refine (innerKinds_any _).mono ?_
 rintro e w0 ⟨rfl,hb,hfr⟩
 have hb0:=hdd hb;have hf0:=hdd hfr
 clear hb hfr
 go_wp2_with (first|(refine jj1 rfl _ ⟨#[112,97,114,116,121]⟩ _ rfl W.heap.size 5 #[⟨.string ⟨#[100,117,116,121]⟩,.func (.func 88) #[] #[],0⟩,⟨.string ⟨#[98,97,110]⟩,.func (.func 89) #[] #[],1⟩,⟨.string ⟨#[111,112,116,105,111,110]⟩,.func (.func 90) #[] #[],2⟩,⟨.string ⟨#[119,97,116,99,104]⟩,.func (.func 91) #[] #[],3⟩,⟨.string ⟨#[105,110,99,108,117,100,101]⟩,.func (.func 92) #[] #[],4⟩] rfl _ rfl hb0.out (by kernel_rfl) ?_;intro w1 hb hfr;have hb1:=hdd hb;have hf1:=hdd ((Fr.refl (fun k=>k=W.heap.size) w0).trans hfr);clear hb hfr)|(refine jj1 rfl _ ⟨#[114,111,108,101]⟩ _ rfl W.heap.size 6 #[⟨.string ⟨#[100,117,116,121]⟩,.func (.func 88) #[] #[],0⟩,⟨.string ⟨#[98,97,110]⟩,.func (.func 89) #[] #[],1⟩,⟨.string ⟨#[111,112,116,105,111,110]⟩,.func (.func 90) #[] #[],2⟩,⟨.string ⟨#[119,97,116,99,104]⟩,.func (.func 91) #[] #[],3⟩,⟨.string ⟨#[105,110,99,108,117,100,101]⟩,.func (.func 92) #[] #[],4⟩,⟨.string ⟨#[112,97,114,116,121]⟩,.func (.func 61) #[] #[],5⟩] rfl _ rfl hb1.out (by kernel_rfl) ?_;intro w2 hb hfr;have hb2:=hdd hb;have hf2:=hdd (hf1.out.trans hfr);clear hb hfr)|(refine jj1 rfl _ ⟨#[117,110,105,116]⟩ _ rfl W.heap.size 7 #[⟨.string ⟨#[100,117,116,121]⟩,.func (.func 88) #[] #[],0⟩,⟨.string ⟨#[98,97,110]⟩,.func (.func 89) #[] #[],1⟩,⟨.string ⟨#[111,112,116,105,111,110]⟩,.func (.func 90) #[] #[],2⟩,⟨.string ⟨#[119,97,116,99,104]⟩,.func (.func 91) #[] #[],3⟩,⟨.string ⟨#[105,110,99,108,117,100,101]⟩,.func (.func 92) #[] #[],4⟩,⟨.string ⟨#[112,97,114,116,121]⟩,.func (.func 61) #[] #[],5⟩,⟨.string ⟨#[114,111,108,101]⟩,.func (.func 62) #[] #[],6⟩] rfl _ rfl hb2.out (by kernel_rfl) ?_;intro w3 hb hfr;have hb3:=hdd hb;have hf3:=hdd (hf2.out.trans hfr);clear hb hfr)|(refine jj1 rfl _ ⟨#[119,101,101,107,101,110,100]⟩ _ rfl W.heap.size 8 #[⟨.string ⟨#[100,117,116,121]⟩,.func (.func 88) #[] #[],0⟩,⟨.string ⟨#[98,97,110]⟩,.func (.func 89) #[] #[],1⟩,⟨.string ⟨#[111,112,116,105,111,110]⟩,.func (.func 90) #[] #[],2⟩,⟨.string ⟨#[119,97,116,99,104]⟩,.func (.func 91) #[] #[],3⟩,⟨.string ⟨#[105,110,99,108,117,100,101]⟩,.func (.func 92) #[] #[],4⟩,⟨.string ⟨#[112,97,114,116,121]⟩,.func (.func 61) #[] #[],5⟩,⟨.string ⟨#[114,111,108,101]⟩,.func (.func 62) #[] #[],6⟩,⟨.string ⟨#[117,110,105,116]⟩,.func (.func 63) #[] #[],7⟩] rfl _ rfl hb3.out (by kernel_rfl) ?_;intro w4 hb hfr;have hb4:=hdd hb;have hf4:=hdd (hf3.out.trans hfr);clear hb hfr)|(refine jj1 rfl _ ⟨#[104,111,108,105,100,97,121]⟩ _ rfl W.heap.size 9 #[⟨.string ⟨#[100,117,116,121]⟩,.func (.func 88) #[] #[],0⟩,⟨.string ⟨#[98,97,110]⟩,.func (.func 89) #[] #[],1⟩,⟨.string ⟨#[111,112,116,105,111,110]⟩,.func (.func 90) #[] #[],2⟩,⟨.string ⟨#[119,97,116,99,104]⟩,.func (.func 91) #[] #[],3⟩,⟨.string ⟨#[105,110,99,108,117,100,101]⟩,.func (.func 92) #[] #[],4⟩,⟨.string ⟨#[112,97,114,116,121]⟩,.func (.func 61) #[] #[],5⟩,⟨.string ⟨#[114,111,108,101]⟩,.func (.func 62) #[] #[],6⟩,⟨.string ⟨#[117,110,105,116]⟩,.func (.func 63) #[] #[],7⟩,⟨.string ⟨#[119,101,101,107,101,110,100]⟩,.func (.func 64) #[] #[],8⟩] rfl _ rfl hb4.out (by kernel_rfl) ?_;intro w5 hb hfr;have hb5:=hdd hb;have hf5:=hdd (hf4.out.trans hfr);clear hb hfr)|(refine jj1 rfl _ ⟨#[115,112,97,110]⟩ _ rfl W.heap.size 10 #[⟨.string ⟨#[100,117,116,121]⟩,.func (.func 88) #[] #[],0⟩,⟨.string ⟨#[98,97,110]⟩,.func (.func 89) #[] #[],1⟩,⟨.string ⟨#[111,112,116,105,111,110]⟩,.func (.func 90) #[] #[],2⟩,⟨.string ⟨#[119,97,116,99,104]⟩,.func (.func 91) #[] #[],3⟩,⟨.string ⟨#[105,110,99,108,117,100,101]⟩,.func (.func 92) #[] #[],4⟩,⟨.string ⟨#[112,97,114,116,121]⟩,.func (.func 61) #[] #[],5⟩,⟨.string ⟨#[114,111,108,101]⟩,.func (.func 62) #[] #[],6⟩,⟨.string ⟨#[117,110,105,116]⟩,.func (.func 63) #[] #[],7⟩,⟨.string ⟨#[119,101,101,107,101,110,100]⟩,.func (.func 64) #[] #[],8⟩,⟨.string ⟨#[104,111,108,105,100,97,121]⟩,.func (.func 65) #[] #[],9⟩] rfl _ rfl hb5.out (by kernel_rfl) ?_;intro w6 hb hfr;have hb6:=hdd hb;have hf6:=hdd (hf5.out.trans hfr);clear hb hfr)|(refine jj1 rfl _ ⟨#[115,117,109]⟩ _ rfl W.heap.size 11 #[⟨.string ⟨#[100,117,116,121]⟩,.func (.func 88) #[] #[],0⟩,⟨.string ⟨#[98,97,110]⟩,.func (.func 89) #[] #[],1⟩,⟨.string ⟨#[111,112,116,105,111,110]⟩,.func (.func 90) #[] #[],2⟩,⟨.string ⟨#[119,97,116,99,104]⟩,.func (.func 91) #[] #[],3⟩,⟨.string ⟨#[105,110,99,108,117,100,101]⟩,.func (.func 92) #[] #[],4⟩,⟨.string ⟨#[112,97,114,116,121]⟩,.func (.func 61) #[] #[],5⟩,⟨.string ⟨#[114,111,108,101]⟩,.func (.func 62) #[] #[],6⟩,⟨.string ⟨#[117,110,105,116]⟩,.func (.func 63) #[] #[],7⟩,⟨.string ⟨#[119,101,101,107,101,110,100]⟩,.func (.func 64) #[] #[],8⟩,⟨.string ⟨#[104,111,108,105,100,97,121]⟩,.func (.func 65) #[] #[],9⟩,⟨.string ⟨#[115,112,97,110]⟩,.func (.func 66) #[] #[],10⟩] rfl _ rfl hb6.out (by kernel_rfl) ?_;intro w7 hb hfr;have hb7:=hdd hb;have hf7:=hdd (hf6.out.trans hfr);clear hb hfr)|(refine jj1 rfl _ ⟨#[97,99,116]⟩ _ rfl W.heap.size 12 #[⟨.string ⟨#[100,117,116,121]⟩,.func (.func 88) #[] #[],0⟩,⟨.string ⟨#[98,97,110]⟩,.func (.func 89) #[] #[],1⟩,⟨.string ⟨#[111,112,116,105,111,110]⟩,.func (.func 90) #[] #[],2⟩,⟨.string ⟨#[119,97,116,99,104]⟩,.func (.func 91) #[] #[],3⟩,⟨.string ⟨#[105,110,99,108,117,100,101]⟩,.func (.func 92) #[] #[],4⟩,⟨.string ⟨#[112,97,114,116,121]⟩,.func (.func 61) #[] #[],5⟩,⟨.string ⟨#[114,111,108,101]⟩,.func (.func 62) #[] #[],6⟩,⟨.string ⟨#[117,110,105,116]⟩,.func (.func 63) #[] #[],7⟩,⟨.string ⟨#[119,101,101,107,101,110,100]⟩,.func (.func 64) #[] #[],8⟩,⟨.string ⟨#[104,111,108,105,100,97,121]⟩,.func (.func 65) #[] #[],9⟩,⟨.string ⟨#[115,112,97,110]⟩,.func (.func 66) #[] #[],10⟩,⟨.string ⟨#[115,117,109]⟩,.func (.func 67) #[] #[],11⟩] rfl _ rfl hb7.out (by kernel_rfl) ?_;intro w8 hb hfr;have hb8:=hdd hb;have hf8:=hdd (hf7.out.trans hfr);clear hb hfr)|(refine jj1 rfl _ ⟨#[116,101,109,112,108,97,116,101]⟩ _ rfl W.heap.size 13 #[⟨.string ⟨#[100,117,116,121]⟩,.func (.func 88) #[] #[],0⟩,⟨.string ⟨#[98,97,110]⟩,.func (.func 89) #[] #[],1⟩,⟨.string ⟨#[111,112,116,105,111,110]⟩,.func (.func 90) #[] #[],2⟩,⟨.string ⟨#[119,97,116,99,104]⟩,.func (.func 91) #[] #[],3⟩,⟨.string ⟨#[105,110,99,108,117,100,101]⟩,.func (.func 92) #[] #[],4⟩,⟨.string ⟨#[112,97,114,116,121]⟩,.func (.func 61) #[] #[],5⟩,⟨.string ⟨#[114,111,108,101]⟩,.func (.func 62) #[] #[],6⟩,⟨.string ⟨#[117,110,105,116]⟩,.func (.func 63) #[] #[],7⟩,⟨.string ⟨#[119,101,101,107,101,110,100]⟩,.func (.func 64) #[] #[],8⟩,⟨.string ⟨#[104,111,108,105,100,97,121]⟩,.func (.func 65) #[] #[],9⟩,⟨.string ⟨#[115,112,97,110]⟩,.func (.func 66) #[] #[],10⟩,⟨.string ⟨#[115,117,109]⟩,.func (.func 67) #[] #[],11⟩,⟨.string ⟨#[97,99,116]⟩,.func (.func 68) #[] #[],12⟩] rfl _ rfl hb8.out (by kernel_rfl) ?_;intro w9 hb hfr;have hb9:=hdd hb;have hf9:=hdd (hf8.out.trans hfr);clear hb hfr))
 go_ret
 exact ⟨rfl,hb9.out,hf0.out.trans' hf9.out (fun i hi e=>by omega)⟩
end Go.Proofs.YtfaflipphkoiiaaDoor.Pr
namespace Go.Proofs.YtfaflipphkoiiaaDoor.Pr
open Go.RowKit Mem
open Lx (Tok)
def RowI (base:Nat) (l:List Flat) (si:Value) (W:World):Prop:=
 (l= []→si=nil)∧ ∃vs:List (Value×Value×Value),vs.length=l.length∧W.ownsRow base 57 33 si l.length ((l.zip vs).flatMap fun p=>icells p.1 p.2.1 p.2.2.1 p.2.2.2 nil)∧ ∀p∈l.zip vs,FlatOK base p.1 p.2.1 p.2.2.1 p.2.2.2 W
theorem RowI.nil (base:Nat) (W:World):RowI base [] nil W:=⟨fun _=>rfl,[],rfl,World.ownsRow_nil _ _ _ _,fun p hp=>by cases hp⟩
def ItemEnd (E:Env) (b:Nat) (x:Item) (s':St) (W:World) (e:Ending) (w':World):Prop:=
 (∃sc sd sn si,e= .returned (.agg (icells x.flat sc sd sn si).toArray)∧FlatOK W.heap.size x.flat sc sd sn w'∧RowI W.heap.size x.inner si w')∧After E b s' W w'
def fid (k:Nat):Nat:=match k with
 |1=>61|2=>62|3=>63|4=>64|5=>65
 |6=>66|7=>67|8=>68|9=>88|10=>89
 |11=>90|12=>91|13=>69|_=>92
def bodyI (k:Nat):M Item:=if k=13 then template else bnd (body k) fun f=>ret ⟨f,[]⟩
theorem flatEnd {E:Env} {b:Nat} {m:M Flat} {s:St} {W:World} {f:Nat} (h:Calls Tryd.prog f #[.pointer (some ⟨b,0,none⟩)] W fun e w'=>(∃sc sd sn,e= .returned (.agg (icells (m s).1 sc sd sn Pr.nil).toArray)∧FlatOK W.heap.size (m s).1 sc sd sn w')∧After E b (m s).2 W w'):
  Calls Tryd.prog f #[.pointer (some ⟨b,0,none⟩)] W fun e w'=>ItemEnd E b ((bnd m fun f=>ret ⟨f,[]⟩) s).1 ((bnd m fun f=>ret (⟨f,[]⟩:Item)) s).2 W e w':=
 h.mono fun e w' ⟨⟨sc,sd,sn,he,hf⟩,hA⟩=>⟨⟨sc,sd,sn,Pr.nil,he,hf,RowI.nil _ _⟩,hA⟩
theorem body_any (k:Nat) (hk:k=1∨k=2∨k=3∨k=4∨k=5∨k=6∨k=7∨k=8∨k=9∨k=10∨k=11∨k=12∨k=14) (E:Env) (b:Nat) (s:St) (W:World) (h:PW E b s W):
  Calls Tryd.prog (fid k) #[.pointer (some ⟨b,0,none⟩)] W fun e w'=>ItemEnd E b (bodyI k s).1 (bodyI k s).2 W e w':=by
 rcases hk with rfl|rfl|rfl|rfl|rfl|rfl|rfl|rfl|rfl|rfl|rfl|rfl|rfl
 ·exact flatEnd (party_any E b s W h)
 ·exact flatEnd (role_any E b s W h)
 ·exact flatEnd (unit_any E b s W h)
 ·exact flatEnd (weekend_any E b s W h)
 ·exact flatEnd (holiday_any E b s W h)
 ·exact flatEnd (spanDef_any E b s W h)
 ·exact flatEnd (sumDef_any E b s W h)
 ·exact flatEnd (act_any E b s W h)
 ·exact flatEnd (duty_any E b s W h)
 ·exact flatEnd (ban_any E b s W h)
 ·exact flatEnd (option_any E b s W h)
 ·exact flatEnd (watch_any E b s W h)
 ·exact flatEnd (incl_any E b s W h)
theorem ent_party (args:Array Value) (W:World):(callFunc 61 args).run Tryd.prog W= .ok (.enter 61 args) W:=by kernel_rfl
end Go.Proofs.YtfaflipphkoiiaaDoor.Pr
namespace Go.Proofs.YtfaflipphkoiiaaDoor.Pr
open Go.RowKit Mem
open Lx (Tok)
theorem build_zero (w:World):(Instr.build 57 #[]).run Tryd.prog w= .ok (.agg (icells flat0 nil nil nil nil).toArray) w:=by kernel_rfl
theorem isKind_after (E:Env) (b:Nat) (s:St) (x:Nat) (W:World) (h:PW E b s W):
  Calls Tryd.prog 70 #[.pointer (some ⟨b,0,none⟩),.int .i64 (x:Int)] W fun e w'=>e= .returned (.bool (isK x s))∧After E b s W w':=
 (jz7 E b s x W h).mono fun e w' ⟨he,m,hm⟩=>⟨he,by subst hm;exact (After.start h).drewN m⟩
theorem After.drew {E:Env} {b:Nat} {s:St} {W W1:World} (h:After E b s W W1):After E b s W W1.drew:=h.drewN 1
def itemI (ws:List (Bytes×Nat)):M Item:=bnd (start ws) fun o=>match o with|none=>ret ⟨flat0,[]⟩|some kp=>bnd (bodyI kp.1) fun x=>ret ⟨{x.flat with pos:=kp.2},x.inner⟩
structure Tab (ws:List (Bytes×Nat)) (es:Array MapEntry):Prop where
 yes: ∀x k,ws.lookup x=some k→ ∃i,Instr.findNow .string (.string ⟨x.toArray⟩) es.toList 0=some (some (i,.func (.func (fid k)) #[] #[]))
 no: ∀x,ws.lookup x=none→Instr.findNow .string (.string ⟨x.toArray⟩) es.toList 0=some none
 ent: ∀x k,ws.lookup x=some k→ ∀args W,(callFunc (fid k) args).run Tryd.prog W= .ok (.enter (fid k) args) W
theorem item_p1 (ws:List (Bytes×Nat)) (es:Array MapEntry) (clock:Nat) (E:Env) (b:Nat) (s:St) (W:World) (h:PW E b s W) (r:Nat) (hr:W.heap[r]?=some (.map es clock)) (hbr:b<r) (hk:isK 1 s=false):
  Calls Tryd.prog 39 #[.pointer (some ⟨b,0,none⟩),.map (some r)] W fun e w'=>ItemEnd E b ⟨flat0,[]⟩ (fail s).2 W e w':=by
 have hbl:=h.2.2.1
 have HP:=hdd h;clear h
 have HK:=hdd hk;clear hk
 have HTB:=hdd hr;clear hr
 go_enter Tryd.func39,Tryd.ntmps39
 go_wp2_with fail
 refine (jz7 E b s 1 _ ((After.start HP.o).alloc _).1).mono ?_
 rw [HK.o]
 rintro e w1 ⟨rfl,m1,rfl⟩
 go_wp2_with fail
 refine (fail_any E b s _ (((After.start HP.o).alloc _).drewN m1).1).mono ?_
 rintro e w2 ⟨rfl,hA2⟩
 have HR2:Hid (I0 W w2):=hA2.2.blk (jx2 (jq5 (by simp)) m1) (by omega)
 have hA:After E b (fail s).2 _ w2:=hA2
 have HA2:=hdd ((((After.start HP.o).alloc _).drewN m1).trans hA);clear hA2 hA
 obtain ⟨w99,hw99,hA99,hl99,ho99⟩:=item_end HR2.o HA2.o hbl flat0 nil nil nil nil
 have HW99:=hdd hw99;clear hw99
 have HA99:=hdd hA99;clear hA99
 have HL99:=hdd hl99;clear hl99 ho99
 go_wp2_with (first|(refine wpList_build rfl 57 _ rfl #[] ?_ _ (build_zero _) ?_;(simp))|(refine wpList_store_mid rfl 57 _ _ rfl W.heap.size 0 (icells flat0 nil nil nil nil).toArray rfl rfl (HR2.o.there' _ _ _ _ _) (jq6 _ _ _ _ _) (ic1 ..) ?_;rw [HW99.o]))
 exact bodyPost_ret (v:= .agg (icells flat0 nil nil nil nil).toArray) (jq8 Tryd.results39 rfl HL99.o) rfl ⟨⟨nil,nil,nil,nil,rfl,FlatOK.nil _ _ _ rfl rfl rfl,RowI.nil _ _⟩,HA99.o⟩
theorem item_p2 (ws:List (Bytes×Nat)) (es:Array MapEntry) (clock:Nat) (E:Env) (b:Nat) (s:St) (W:World) (h:PW E b s W) (r:Nat) (hr:W.heap[r]?=some (.map es clock)) (hbr:b<r) (hk:isK 1 s=true) (t:Tok) (rs:List Tok) (hrs:s.rest=t::rs) (hno:Instr.findNow .string (.string ⟨t.text.toArray⟩) es.toList 0=some none):
  Calls Tryd.prog 39 #[.pointer (some ⟨b,0,none⟩),.map (some r)] W fun e w'=>ItemEnd E b ⟨flat0,[]⟩ (fail s).2 W e w':=by
 have hbl:=h.2.2.1
 have hrl:=jq7 hr
 have HP:=hdd h;clear h
 have HK:=hdd hk;clear hk
 have HTB:=hdd hr;clear hr
 have HRS:=hdd hrs;clear hrs
 have HNO:=hdd hno;clear hno
 go_enter Tryd.func39,Tryd.ntmps39
 go_wp2_with fail
 refine (isKind_after E b s 1 _ ((After.start HP.o).alloc _).1).mono ?_
 rw [HK.o]
 rintro e V1 ⟨rfl,hA⟩
 have HR1:Hid (I0 W V1):=hA.2.blk (jq5 (by simp)) (by omega)
 have HT1:Hid (V1.heap[r]?=some (.map es clock)):=hA.2.blk (jq9 HTB.o _) (by omega)
 have HA1:=hdd (((After.start HP.o).alloc _).trans hA);clear hA HTB
 obtain ⟨_,_,hbV,hpt,n,hn1,hn2,hblk⟩:=HA1.o.1
 have hd:t::rs=E.ts.drop n:=by rw [←HRS.o];exact hn2
 obtain ⟨hn,hti,hr2⟩:=jz2 hd
 obtain ⟨g,o,hgA,hg,hc⟩:=hpt.2 (by omega)
 obtain ⟨q0,q1,q2,q3⟩:=hc n hn
 rw [hti] at q0 q1 q2 q3
 have c0:V1.cell? ⟨b,0,none⟩=some (.slice (some ⟨g,o,none⟩) E.ts.length E.cap):=by rw [←hgA];exact jq0 hblk 0
 have c1:V1.cell? ⟨b,1,none⟩=some (.int .i64 (n:Int)):=jq0 hblk 1
 have hl:=HA1.o.1.1
 have hgb:=jq7 hblk
 have HBK:=hdd hblk
 have HCA:Hid (∀ob k i,k<V1.heap.size→(V1.alloc ob).cell? ⟨k,i,none⟩=V1.cell? ⟨k,i,none⟩):=fun ob k i hk=>World.cell?_alloc_lt V1 ob ⟨k,i,none⟩ hk
 have HDR:=hdd hr2
 clear hd hn2 hti hr2 hc hgA hpt hblk
 have HN1:Hid (b<V1.heap.size∧g<V1.heap.size):=⟨hbV,by omega⟩
 have i1:(0:Int)≤(n:Int):=Int.natCast_nonneg _
 have i2:(n:Int)<(E.ts.length:Int):=by omega
 go_wp2_with fail
 go_region_held3 (fun w'=>w'.cell? ⟨b,0,none⟩=some (.slice (some ⟨g,o,none⟩) E.ts.length E.cap)∧w'.cell? ⟨b,1,none⟩=some (.int .i64 (n:Int))∧w'.cell? ⟨g,o+n*4,none⟩=some (.int .i64 (t.kind:Int))∧w'.cell? ⟨g,o+n*4+1,none⟩=some (.string ⟨t.text.toArray⟩)∧w'.cell? ⟨g,o+n*4+2,none⟩=some (.int .i64 (t.n:Int))∧w'.cell? ⟨g,o+n*4+3,none⟩=some (.int .i64 (t.pos:Int)))
  (first|exact ⟨c0,c1,q0,q1,q2,q3⟩|exact ⟨(HCA.o _ _ _ HN1.o.1).trans c0,(HCA.o _ _ _ HN1.o.1).trans c1,(HCA.o _ _ _ HN1.o.2).trans q0,(HCA.o _ _ _ HN1.o.2).trans q1,(HCA.o _ _ _ HN1.o.2).trans q2,(HCA.o _ _ _ HN1.o.2).trans q3⟩) (fail)
 have hT2:(V1.alloc (.cells #[.int .i64 (t.kind:Int),.string ⟨t.text.toArray⟩,.int .i64 (t.n:Int),.int .i64 (t.pos:Int)] 40)).drew.heap[r]?=some (.map es clock):=jq9 HT1.o _
 have hlk:=run_look_no hT2 HNO.o
 have HT2:=hdd hT2;clear hT2
 have HR3:Hid (I0 W (V1.alloc (.cells #[.int .i64 (t.kind:Int),.string ⟨t.text.toArray⟩,.int .i64 (t.n:Int),.int .i64 (t.pos:Int)] 40)).drew):=jq9 HR1.o _
 clear c0 c1 q0 q1 q2 q3
 go_wp2_with fail
 refine (fail_any E b s _ (HA1.o.alloc _).drew.1).mono ?_
 rintro e w2 ⟨rfl,hA2⟩
 have HR2:Hid (I0 W w2):=hA2.2.blk HR3.o (by omega)
 have hA:After E b (fail s).2 _ w2:=hA2
 have HA2:=hdd ((HA1.o.alloc _).drew.trans hA);clear hA2 hA
 obtain ⟨w99,hw99,hA99,hl99,ho99⟩:=item_end HR2.o HA2.o hbl flat0 nil nil nil nil
 have HW99:=hdd hw99;clear hw99
 have HA99:=hdd hA99;clear hA99
 have HL99:=hdd hl99;clear hl99 ho99 hlk
 go_wp2_with (first|(refine wpList_build rfl 57 _ rfl #[] ?_ _ (build_zero _) ?_;(simp))|(refine wpList_store_mid rfl 57 _ _ rfl W.heap.size 0 (icells flat0 nil nil nil nil).toArray rfl rfl (HR2.o.there' _ _ _ _ _) (jq6 _ _ _ _ _) (ic1 ..) ?_;rw [HW99.o]))
 exact bodyPost_ret (v:= .agg (icells flat0 nil nil nil nil).toArray) (jq8 Tryd.results39 rfl HL99.o) rfl ⟨⟨nil,nil,nil,nil,rfl,FlatOK.nil _ _ _ rfl rfl rfl,RowI.nil _ _⟩,HA99.o⟩
theorem set_begin {E:Env} {b n:Nat} {s:St} {W:World} {rs:List Tok} (h:W.heap[b]?=some (.cells (pcells E n s) 67 (0,0))) (he:s.err=0):
  ((W.setCell ⟨b,3,none⟩ (.int .i64 ((s.items:Int)+1))).setCell ⟨b,1,none⟩ (.int .i64 ((n:Int)+1))).heap[b]?=some (.cells (pcells E (n+1) ⟨rs,s.items+1,0⟩) 67 (0,0)):=by
 have:=jx4 (jx4 h 3 (.int .i64 ((s.items:Int)+1))) 1 (.int .i64 ((n:Int)+1))
 have e:atOf E.size s=0:=by simp [atOf,he]
 have e2:atOf E.size ⟨rs,s.items+1,0⟩=0:=by simp [atOf]
 unfold pcells at this ⊢
 rw [e,he] at this
 rw [e2]
 exact this
theorem FlatOK.carry {base base':Nat} {f:Flat} {sc sd sn:Value} {W W':World} (h:FlatOK base f sc sd sn W) (hc: ∀e z v n xs,W.ownsRow base e z v n xs→W'.ownsRow base' e z v n xs):FlatOK base' f sc sd sn W':=⟨hc _ _ _ _ _ h.1,hc _ _ _ _ _ h.2.1,hc _ _ _ _ _ h.2.2⟩
theorem RowI.carry {base base':Nat} {l:List Flat} {si:Value} {W W':World} (h:RowI base l si W) (hc: ∀e z v n xs,W.ownsRow base e z v n xs→W'.ownsRow base' e z v n xs):RowI base' l si W':=by
 obtain ⟨h0,vs,h1,h2,h3⟩:=h
 exact ⟨h0,vs,h1,hc _ _ _ _ _ h2,fun p hp=>(h3 p hp).carry hc⟩
theorem FlatOK.forms {base:Nat} {f:Flat} {sc sd sn:Value} {W:World} (h:FlatOK base f sc sd sn W):(∃A n c,sc= .slice A n c)∧(∃A n c,sd= .slice A n c)∧ ∃A n c,sn= .slice A n c:=by
 obtain ⟨h1,h2,h3⟩:=h
 obtain ⟨a1,c1,e1⟩:=own_form h1
 obtain ⟨a2,c2,e2⟩:=own_form h2
 obtain ⟨a3,c3,e3⟩:=own_form h3
 exact ⟨⟨a1,_,c1,e1⟩,⟨a2,_,c2,e2⟩,⟨a3,_,c3,e3⟩⟩
theorem RowI.form {base:Nat} {l:List Flat} {si:Value} {W:World} (h:RowI base l si W): ∃A n c,si= .slice A n c:=by
 obtain ⟨_,vs,_,h2,_⟩:=h
 obtain ⟨a,c,e⟩:=own_form h2
 exact ⟨a,_,c,e⟩
theorem item_p4 (ws:List (Bytes×Nat)) (es:Array MapEntry) (clock:Nat) (E:Env) (b:Nat) (s:St) (W:World) (h:PW E b s W) (r:Nat) (hr:W.heap[r]?=some (.map es clock)) (hbr:b<r) (hk:isK 1 s=true) (t:Tok) (rs:List Tok) (hrs:s.rest=t::rs) (k i:Nat) (hyes:Instr.findNow .string (.string ⟨t.text.toArray⟩) es.toList 0=some (some (i,.func (.func (fid k)) #[] #[]))) (hit:s.items≠600) (hent: ∀args W,(callFunc (fid k) args).run Tryd.prog W= .ok (.enter (fid k) args) W)
  (hbody: ∀s W,PW E b s W→Calls Tryd.prog (fid k) #[.pointer (some ⟨b,0,none⟩)] W fun e w'=>ItemEnd E b (bodyI k s).1 (bodyI k s).2 W e w'):
  Calls Tryd.prog 39 #[.pointer (some ⟨b,0,none⟩),.map (some r)] W fun e w'=>ItemEnd E b ⟨{(bodyI k ⟨rs,s.items+1,0⟩).1.flat with pos:=t.pos},(bodyI k ⟨rs,s.items+1,0⟩).1.inner⟩ (bodyI k ⟨rs,s.items+1,0⟩).2 W e w':=by
 have hbl:=h.2.2.1
 obtain ⟨X,sx,hX⟩: ∃X sx,bodyI k ⟨rs,s.items+1,0⟩=(X,sx):=⟨_,_,rfl⟩
 rw [hX]
 have HX:=hdd hX;clear hX
 have hrl:=jq7 hr
 have HP:=hdd h;clear h
 have HK:=hdd hk;clear hk
 have HTB:=hdd hr;clear hr
 have HRS:=hdd hrs;clear hrs
 have HYES:=hdd hyes;clear hyes
 have HENT:=hdd hent;clear hent
 have HBODY:=hdd hbody;clear hbody
 go_enter Tryd.func39,Tryd.ntmps39
 go_wp2_with fail
 refine (isKind_after E b s 1 _ ((After.start HP.o).alloc _).1).mono ?_
 rw [HK.o]
 rintro e V1 ⟨rfl,hA⟩
 have HR1:Hid (I0 W V1):=hA.2.blk (jq5 (by simp)) (by omega)
 have HT1:Hid (V1.heap[r]?=some (.map es clock)):=hA.2.blk (jq9 HTB.o _) (by omega)
 have HA1:=hdd (((After.start HP.o).alloc _).trans hA);clear hA HTB
 obtain ⟨_,_,hbV,hpt,n,hn1,hn2,hblk⟩:=HA1.o.1
 have hd:t::rs=E.ts.drop n:=by rw [←HRS.o];exact hn2
 obtain ⟨hn,hti,hr2⟩:=jz2 hd
 obtain ⟨g,o,hgA,hg,hc⟩:=hpt.2 (by omega)
 obtain ⟨q0,q1,q2,q3⟩:=hc n hn
 rw [hti] at q0 q1 q2 q3
 have c0:V1.cell? ⟨b,0,none⟩=some (.slice (some ⟨g,o,none⟩) E.ts.length E.cap):=by rw [←hgA];exact jq0 hblk 0
 have c1:V1.cell? ⟨b,1,none⟩=some (.int .i64 (n:Int)):=jq0 hblk 1
 have hl:=HA1.o.1.1
 have hgb:=jq7 hblk
 have HBK:=hdd hblk
 have HCA:Hid (∀ob k i,k<V1.heap.size→(V1.alloc ob).cell? ⟨k,i,none⟩=V1.cell? ⟨k,i,none⟩):=fun ob k i hk=>World.cell?_alloc_lt V1 ob ⟨k,i,none⟩ hk
 have HDR:=hdd hr2
 clear hd hn2 hti hr2 hc hgA hpt hblk
 have HN1:Hid (b<V1.heap.size∧g<V1.heap.size):=⟨hbV,by omega⟩
 have i1:(0:Int)≤(n:Int):=Int.natCast_nonneg _
 have i2:(n:Int)<(E.ts.length:Int):=by omega
 go_wp2_with fail
 go_region_held3 (fun w'=>w'.cell? ⟨b,0,none⟩=some (.slice (some ⟨g,o,none⟩) E.ts.length E.cap)∧w'.cell? ⟨b,1,none⟩=some (.int .i64 (n:Int))∧w'.cell? ⟨g,o+n*4,none⟩=some (.int .i64 (t.kind:Int))∧w'.cell? ⟨g,o+n*4+1,none⟩=some (.string ⟨t.text.toArray⟩)∧w'.cell? ⟨g,o+n*4+2,none⟩=some (.int .i64 (t.n:Int))∧w'.cell? ⟨g,o+n*4+3,none⟩=some (.int .i64 (t.pos:Int)))
  (first|exact ⟨c0,c1,q0,q1,q2,q3⟩|exact ⟨(HCA.o _ _ _ HN1.o.1).trans c0,(HCA.o _ _ _ HN1.o.1).trans c1,(HCA.o _ _ _ HN1.o.2).trans q0,(HCA.o _ _ _ HN1.o.2).trans q1,(HCA.o _ _ _ HN1.o.2).trans q2,(HCA.o _ _ _ HN1.o.2).trans q3⟩) (fail)
 have hT2:(V1.alloc (.cells #[.int .i64 (t.kind:Int),.string ⟨t.text.toArray⟩,.int .i64 (t.n:Int),.int .i64 (t.pos:Int)] 40)).drew.heap[r]?=some (.map es clock):=jq9 HT1.o _
 have hlk:=run_look hT2 HYES.o
 have HR3:Hid (I0 W (V1.alloc (.cells #[.int .i64 (t.kind:Int),.string ⟨t.text.toArray⟩,.int .i64 (t.n:Int),.int .i64 (t.pos:Int)] 40)).drew):=jq9 HR1.o _
 have HB3:Hid ((V1.alloc (.cells #[.int .i64 (t.kind:Int),.string ⟨t.text.toArray⟩,.int .i64 (t.n:Int),.int .i64 (t.pos:Int)] 40)).drew.heap[b]?=some (.cells (pcells E n s) 67 (0,0))):=jq9 HBK.o _
 have HK3:Hid ((V1.alloc (.cells #[.int .i64 (t.kind:Int),.string ⟨t.text.toArray⟩,.int .i64 (t.n:Int),.int .i64 (t.pos:Int)] 40)).drew.heap[V1.heap.size]?=some (.cells #[.int .i64 (t.kind:Int),.string ⟨t.text.toArray⟩,.int .i64 (t.n:Int),.int .i64 (t.pos:Int)] 40 (0,0))):=jq5 (w:=V1) rfl
 have HA3:=hdd ((HA1.o.alloc (.cells #[.int .i64 (t.kind:Int),.string ⟨t.text.toArray⟩,.int .i64 (t.n:Int),.int .i64 (t.pos:Int)] 40)).drew)
 clear c0 c1 q0 q1 q2 q3 hT2 HT1
 generalize (V1.alloc (.cells #[.int .i64 (t.kind:Int),.string ⟨t.text.toArray⟩,.int .i64 (t.n:Int),.int .i64 (t.pos:Int)] 40)).drew=V2 at*
 have c1:V2.cell? ⟨b,1,none⟩=some (.int .i64 (n:Int)):=jq0 HB3.o 1
 have c3:V2.cell? ⟨b,3,none⟩=some (.int .i64 (s.items:Int)):=jq0 HB3.o 3
 have f1:V2.frozen? ⟨b,1,none⟩=false:=jq1 HB3.o 1
 have f3:V2.frozen? ⟨b,3,none⟩=false:=jq1 HB3.o 3
 have t1:V2.cell? ⟨V1.heap.size,1,none⟩=some (.string ⟨t.text.toArray⟩):=jq0 HK3.o 1
 have h600:((s.items:Int)==600)=false:=beq_eq_false_iff_ne.2 (by omega)
 have hi6:=HA3.o.1.2.1
 go_wp2_with fail
 rw [HENT.o,Oper.upon_enter]
 have hfr:Fr (fun k=>k=b) V2 ((V2.setCell ⟨b,3,none⟩ (.int .i64 ((s.items:Int)+1))).setCell ⟨b,1,none⟩ (.int .i64 ((n:Int)+1))):=((Fr.refl _ _).setb 3 _).setb 1 _
 have hpw:PW E b ⟨rs,s.items+1,0⟩ ((V2.setCell ⟨b,3,none⟩ (.int .i64 ((s.items:Int)+1))).setCell ⟨b,1,none⟩ (.int .i64 ((n:Int)+1))):=mod_PW HA3.o.1 hfr (by show s.items+1≤600;omega) (by omega) HDR.o (set_begin HB3.o (isK_err HK.o).1)
 have HA4:Hid (After E b ⟨rs,s.items+1,0⟩ W ((V2.setCell ⟨b,3,none⟩ (.int .i64 ((s.items:Int)+1))).setCell ⟨b,1,none⟩ (.int .i64 ((n:Int)+1)))):=⟨hpw,HA3.o.2.trans hfr⟩
 have HR4:=hdd (hfr.blk HR3.o (by omega))
 have HS2:=hdd (jq7 HR4.o)
 have HK4:=hdd (hfr.blk HK3.o (by omega))
 refine (HBODY.o _ _ hpw).mono ?_
 rw [HX.o]
 clear hfr hpw c1 c3 f1 f3 t1 hlk
 intro e w3 hE
 obtain ⟨⟨sc,sd,sn,si,rfl,hF,hRI⟩,hA⟩:=hE
 dsimp only at hF hRI hA ⊢
 have HR5:Hid (I0 W w3):=hA.2.blk HR4.o (by omega)
 have hK5:=hA.2.blk HK4.o (by omega)
 have HA5:=hdd (HA4.o.trans hA)
 have HSZ:=hdd hA.2.size
 have t3:w3.cell? ⟨V1.heap.size,3,none⟩=some (.int .i64 (t.pos:Int)):=jq0 hK5 3
 have t3a: ∀ob,(w3.alloc ob).cell? ⟨V1.heap.size,3,none⟩=some (.int .i64 (t.pos:Int)):=fun ob=>jq0 (jq9 hK5 ob) 3
 have HG:=hdd hF.forms
 have HG4:=hdd hRI.form
 have HF:=hdd hF;have HRI:=hdd hRI
 have hs3:=jq7 HR5.o
 have hv13:=jq7 hK5
 clear hF hRI hA hK5 HA4 HR4 HK4 HR3 HB3 HK3 HA3
 have HI6:Hid (IB w3.heap.size {X.flat with pos:=t.pos} sc sd sn si (w3.alloc (.cells ((icells X.flat sc sd sn si).set 2 (.int .i64 (t.pos:Int))).toArray 57))):=jq5 rfl
 have HR6:Hid (I0 W (w3.alloc (.cells ((icells X.flat sc sd sn si).set 2 (.int .i64 (t.pos:Int))).toArray 57))):=jq9 HR5.o _
 have HA6:Hid (After E b sx W (w3.alloc (.cells ((icells X.flat sc sd sn si).set 2 (.int .i64 (t.pos:Int))).toArray 57))):=HA5.o.alloc _
 obtain ⟨w99,hw99,hA99,hl99,ho99⟩:=item_end HR6.o HA6.o hbl {X.flat with pos:=t.pos} sc sd sn si
 have HB6:=hdd (jq7 HR1.o)
 have HCAR:Hid (∀(e:TypeId) (z:Nat) (v:Value) (n1:Nat) (xs:List Value),w3.ownsRow ((V2.setCell ⟨b,3,none⟩ (.int .i64 ((s.items:Int)+1))).setCell ⟨b,1,none⟩ (.int .i64 ((n:Int)+1))).heap.size e z v n1 xs→w99.ownsRow W.heap.size e z v n1 xs):=by
  intro e z v n' xs ho
  have hsz2:W.heap.size<((V2.setCell ⟨b,3,none⟩ (.int .i64 ((s.items:Int)+1))).setCell ⟨b,1,none⟩ (.int .i64 ((n:Int)+1))).heap.size:=HS2.o
  exact own_base (ho99 _ _ _ _ _ _ hsz2 (jx5 ho ((Fr.refl (fun _=>False) _).alloc _) (fun _ _ _ h=>h))) (by omega)
 have HF9:=hdd (HF.o.carry HCAR.o)
 have HRI9:=hdd (HRI.o.carry HCAR.o)
 have HW99:=hdd hw99;clear hw99
 have HA99:=hdd hA99;clear hA99
 have HL99:=hdd hl99;clear hl99 ho99
 go_wp2_with (first|(refine jq4 rfl 57 _ _ rfl rfl (icells X.flat sc sd sn si).toArray rfl (jq6 _ _ _ _ _) (jv2 _ _ _ _ _ HG.o.1 HG.o.2.1 HG.o.2.2 HG4.o) (by rfl) ?_)|(refine wpList_load_mid rfl 57 _ rfl w3.heap.size 0 rfl (icells {X.flat with pos:=t.pos} sc sd sn si) _ HI6.o.range Tryd.underlying57 rfl (jx6 _ _ _ _ _) ?_)|(refine wpList_store_mid rfl 57 _ _ rfl W.heap.size 0 (icells {X.flat with pos:=t.pos} sc sd sn si).toArray rfl rfl (HR6.o.there' _ _ _ _ _) (jq6 _ _ _ _ _) (jv2 _ _ _ _ _ HG.o.1 HG.o.2.1 HG.o.2.2 HG4.o) ?_;rw [HW99.o]))
 exact bodyPost_ret (v:= .agg (icells {X.flat with pos:=t.pos} sc sd sn si).toArray) (jq8 Tryd.results39 rfl HL99.o) rfl ⟨⟨sc,sd,sn,si,rfl,HF9.o,HRI9.o⟩,HA99.o⟩
end Go.Proofs.YtfaflipphkoiiaaDoor.Pr
namespace Go.Proofs.YtfaflipphkoiiaaDoor.Pr
open Go.RowKit Mem
open Lx (Tok)
theorem item_p3 (ws:List (Bytes×Nat)) (es:Array MapEntry) (clock:Nat) (E:Env) (b:Nat) (s:St) (W:World) (h:PW E b s W) (r:Nat) (hr:W.heap[r]?=some (.map es clock)) (hbr:b<r) (hk:isK 1 s=true) (t:Tok) (rs:List Tok) (hrs:s.rest=t::rs) (k i:Nat) (hyes:Instr.findNow .string (.string ⟨t.text.toArray⟩) es.toList 0=some (some (i,.func (.func (fid k)) #[] #[]))) (hit:s.items=600):
  Calls Tryd.prog 39 #[.pointer (some ⟨b,0,none⟩),.map (some r)] W fun e w'=>ItemEnd E b ⟨flat0,[]⟩ {s with err:=3} W e w':=by
 have hbl:=h.2.2.1
 have hrl:=jq7 hr
 have HP:=hdd h;clear h
 have HK:=hdd hk;clear hk
 have HTB:=hdd hr;clear hr
 have HRS:=hdd hrs;clear hrs
 have HYES:=hdd hyes;clear hyes
 go_enter Tryd.func39,Tryd.ntmps39
 go_wp2_with fail
 refine (isKind_after E b s 1 _ ((After.start HP.o).alloc _).1).mono ?_
 rw [HK.o]
 rintro e V1 ⟨rfl,hA⟩
 have HR1:Hid (I0 W V1):=hA.2.blk (jq5 (by simp)) (by omega)
 have HT1:Hid (V1.heap[r]?=some (.map es clock)):=hA.2.blk (jq9 HTB.o _) (by omega)
 have HA1:=hdd (((After.start HP.o).alloc _).trans hA);clear hA HTB
 obtain ⟨_,_,hbV,hpt,n,hn1,hn2,hblk⟩:=HA1.o.1
 have hd:t::rs=E.ts.drop n:=by rw [←HRS.o];exact hn2
 obtain ⟨hn,hti,hr2⟩:=jz2 hd
 obtain ⟨g,o,hgA,hg,hc⟩:=hpt.2 (by omega)
 obtain ⟨q0,q1,q2,q3⟩:=hc n hn
 rw [hti] at q0 q1 q2 q3
 have c0:V1.cell? ⟨b,0,none⟩=some (.slice (some ⟨g,o,none⟩) E.ts.length E.cap):=by rw [←hgA];exact jq0 hblk 0
 have c1:V1.cell? ⟨b,1,none⟩=some (.int .i64 (n:Int)):=jq0 hblk 1
 have hl:=HA1.o.1.1
 have hgb:=jq7 hblk
 have HBK:=hdd hblk
 have HCA:Hid (∀ob k i,k<V1.heap.size→(V1.alloc ob).cell? ⟨k,i,none⟩=V1.cell? ⟨k,i,none⟩):=fun ob k i hk=>World.cell?_alloc_lt V1 ob ⟨k,i,none⟩ hk
 have HDR:=hdd hr2
 have HN2:=hdd hn2
 have HAT:Hid (atOf E.size {s with err:=3}=t.pos):=by show atOf E.size {s with err:=3}=t.pos;simp [atOf,HRS.o]
 clear hd hn2 hti hr2 hc hgA hpt hblk
 have HN1:Hid (b<V1.heap.size∧g<V1.heap.size):=⟨hbV,by omega⟩
 have i1:(0:Int)≤(n:Int):=Int.natCast_nonneg _
 have i2:(n:Int)<(E.ts.length:Int):=by omega
 go_wp2_with fail
 go_region_held3 (fun w'=>w'.cell? ⟨b,0,none⟩=some (.slice (some ⟨g,o,none⟩) E.ts.length E.cap)∧w'.cell? ⟨b,1,none⟩=some (.int .i64 (n:Int))∧w'.cell? ⟨g,o+n*4,none⟩=some (.int .i64 (t.kind:Int))∧w'.cell? ⟨g,o+n*4+1,none⟩=some (.string ⟨t.text.toArray⟩)∧w'.cell? ⟨g,o+n*4+2,none⟩=some (.int .i64 (t.n:Int))∧w'.cell? ⟨g,o+n*4+3,none⟩=some (.int .i64 (t.pos:Int)))
  (first|exact ⟨c0,c1,q0,q1,q2,q3⟩|exact ⟨(HCA.o _ _ _ HN1.o.1).trans c0,(HCA.o _ _ _ HN1.o.1).trans c1,(HCA.o _ _ _ HN1.o.2).trans q0,(HCA.o _ _ _ HN1.o.2).trans q1,(HCA.o _ _ _ HN1.o.2).trans q2,(HCA.o _ _ _ HN1.o.2).trans q3⟩) (fail)
 have hT2:(V1.alloc (.cells #[.int .i64 (t.kind:Int),.string ⟨t.text.toArray⟩,.int .i64 (t.n:Int),.int .i64 (t.pos:Int)] 40)).drew.heap[r]?=some (.map es clock):=jq9 HT1.o _
 have hlk:=run_look hT2 HYES.o
 have HR3:Hid (I0 W (V1.alloc (.cells #[.int .i64 (t.kind:Int),.string ⟨t.text.toArray⟩,.int .i64 (t.n:Int),.int .i64 (t.pos:Int)] 40)).drew):=jq9 HR1.o _
 have HB3:Hid ((V1.alloc (.cells #[.int .i64 (t.kind:Int),.string ⟨t.text.toArray⟩,.int .i64 (t.n:Int),.int .i64 (t.pos:Int)] 40)).drew.heap[b]?=some (.cells (pcells E n s) 67 (0,0))):=jq9 HBK.o _
 have HK3:Hid ((V1.alloc (.cells #[.int .i64 (t.kind:Int),.string ⟨t.text.toArray⟩,.int .i64 (t.n:Int),.int .i64 (t.pos:Int)] 40)).drew.heap[V1.heap.size]?=some (.cells #[.int .i64 (t.kind:Int),.string ⟨t.text.toArray⟩,.int .i64 (t.n:Int),.int .i64 (t.pos:Int)] 40 (0,0))):=jq5 (w:=V1) rfl
 have HA3:=hdd ((HA1.o.alloc (.cells #[.int .i64 (t.kind:Int),.string ⟨t.text.toArray⟩,.int .i64 (t.n:Int),.int .i64 (t.pos:Int)] 40)).drew)
 clear c0 c1 q0 q1 q2 q3 hT2 HT1
 generalize (V1.alloc (.cells #[.int .i64 (t.kind:Int),.string ⟨t.text.toArray⟩,.int .i64 (t.n:Int),.int .i64 (t.pos:Int)] 40)).drew=V2 at*
 have c1:V2.cell? ⟨b,1,none⟩=some (.int .i64 (n:Int)):=jq0 HB3.o 1
 have c3:V2.cell? ⟨b,3,none⟩=some (.int .i64 (s.items:Int)):=jq0 HB3.o 3
 have f1:V2.frozen? ⟨b,1,none⟩=false:=jq1 HB3.o 1
 have f3:V2.frozen? ⟨b,3,none⟩=false:=jq1 HB3.o 3
 have t1:V2.cell? ⟨V1.heap.size,1,none⟩=some (.string ⟨t.text.toArray⟩):=jq0 HK3.o 1
 have c4:V2.cell? ⟨b,4,none⟩=some (.int .i64 (s.err:Int)):=jq0 HB3.o 4
 have c5:V2.cell? ⟨b,5,none⟩=some (.int .i64 (atOf E.size s:Int)):=jq0 HB3.o 5
 have f4:V2.frozen? ⟨b,4,none⟩=false:=jq1 HB3.o 4
 have f5:V2.frozen? ⟨b,5,none⟩=false:=jq1 HB3.o 5
 have t3:V2.cell? ⟨V1.heap.size,3,none⟩=some (.int .i64 (t.pos:Int)):=jq0 HK3.o 3
 have HFAR:Hid (∀i j v,(V2.setCell ⟨b,i,none⟩ v).cell? ⟨V1.heap.size,j,none⟩=V2.cell? ⟨V1.heap.size,j,none⟩):=fun i j v=>jz0 (by omega)
 have HFAR2:Hid (∀i i' j v v',((V2.setCell ⟨b,i,none⟩ v).setCell ⟨b,i',none⟩ v').cell? ⟨V1.heap.size,j,none⟩=V2.cell? ⟨V1.heap.size,j,none⟩):=fun i i' j v v'=>(jz0 (by omega)).trans (jz0 (by omega))
 have h600:((s.items:Int)==600)=true:=beq_iff_eq.2 (by omega)
 have hi6:=HA3.o.1.2.1
 go_wp2_with fail
 go_region_held3 (fun w'=>w'.cell? ⟨V1.heap.size,3,none⟩=some (.int .i64 (t.pos:Int))) (first|assumption|exact t3|exact (HFAR.o _ _ _).trans t3|exact ((HFAR2.o _ _ _ _ _).trans t3)) (fail)
 all_goals
  have hfr:Fr (fun k=>k=b) V2 ((V2.setCell ⟨b,4,none⟩ (.int .i64 3)).setCell ⟨b,5,none⟩ (.int .i64 (t.pos:Int))).drew:=(((Fr.refl _ _).setb 4 _).setb 5 _).drew
  have hpw:PW E b {s with err:=3} ((V2.setCell ⟨b,4,none⟩ (.int .i64 3)).setCell ⟨b,5,none⟩ (.int .i64 (t.pos:Int))).drew:=mod_PW HA3.o.1 hfr (by show s.items≤600;omega) (by omega) HN2.o (set_err HB3.o 3 t.pos {s with err:=3} rfl rfl HAT.o)
  have HA2:Hid (After E b {s with err:=3} W ((V2.setCell ⟨b,4,none⟩ (.int .i64 3)).setCell ⟨b,5,none⟩ (.int .i64 (t.pos:Int))).drew):=⟨hpw,HA3.o.2.trans hfr⟩
  have HR2:Hid (I0 W ((V2.setCell ⟨b,4,none⟩ (.int .i64 3)).setCell ⟨b,5,none⟩ (.int .i64 (t.pos:Int))).drew):=hfr.blk HR3.o (by omega)
  clear hfr hpw c1 c3 f1 f3 t1 hlk c4 c5 f4 f5 t3 HFAR HFAR2 HA3 HB3 HK3 HR3
  generalize ((V2.setCell ⟨b,4,none⟩ (.int .i64 3)).setCell ⟨b,5,none⟩ (.int .i64 (t.pos:Int))).drew=w2 at*
  obtain ⟨w99,hw99,hA99,hl99,ho99⟩:=item_end HR2.o HA2.o hbl flat0 nil nil nil nil
  have HW99:=hdd hw99;clear hw99
  have HA99:=hdd hA99;clear hA99
  have HL99:=hdd hl99;clear hl99 ho99
  go_wp2_with (first|(refine wpList_build rfl 57 _ rfl #[] ?_ _ (build_zero _) ?_;(simp))|(refine wpList_store_mid rfl 57 _ _ rfl W.heap.size 0 (icells flat0 nil nil nil nil).toArray rfl rfl (HR2.o.there' _ _ _ _ _) (jq6 _ _ _ _ _) (ic1 ..) ?_;rw [HW99.o]))
  exact bodyPost_ret (v:= .agg (icells flat0 nil nil nil nil).toArray) (jq8 Tryd.results39 rfl HL99.o) rfl ⟨⟨nil,nil,nil,nil,rfl,FlatOK.nil _ _ _ rfl rfl rfl,RowI.nil _ _⟩,by have hq:=HA99.o;rw [hit] at hq;exact hq⟩
theorem item_any (ws:List (Bytes×Nat)) (es:Array MapEntry) (clock:Nat) (hT:Tab ws es) (E:Env) (b:Nat) (hbody: ∀x k,ws.lookup x=some k→ ∀s W,PW E b s W→Calls Tryd.prog (fid k) #[.pointer (some ⟨b,0,none⟩)] W fun e w'=>ItemEnd E b (bodyI k s).1 (bodyI k s).2 W e w')
  (s:St) (W:World) (h:PW E b s W) (r:Nat) (hr:W.heap[r]?=some (.map es clock)) (hbr:b<r):
  Calls Tryd.prog 39 #[.pointer (some ⟨b,0,none⟩),.map (some r)] W fun e w'=>ItemEnd E b (itemI ws s).1 (itemI ws s).2 W e w':=by
 cases hk:isK 1 s with
 |false=>
  have e:itemI ws s=(⟨flat0,[]⟩,(fail s).2):=by simp [itemI,bnd,start,hk,ret]
  rw [e]
  exact item_p1 ws es clock E b s W h r hr hbr hk
 |true=>
  obtain ⟨he,t,rs,hrs,_⟩:=isK_err hk
  cases hl:ws.lookup t.text with
  |none=>
   have e:itemI ws s=(⟨flat0,[]⟩,(fail s).2):=by simp [itemI,bnd,start,hk,ret,hrs,hl]
   rw [e]
   exact item_p2 ws es clock E b s W h r hr hbr hk t rs hrs (hT.no _ hl)
  |some k=>
   obtain ⟨i,hi⟩:=hT.yes _ _ hl
   by_cases h6:s.items=600
   ·have e:itemI ws s=(⟨flat0,[]⟩,{s with err:=3}):=by simp [itemI,bnd,start,hk,ret,hrs,hl,h6]
    rw [e]
    exact item_p3 ws es clock E b s W h r hr hbr hk t rs hrs k i hi h6
   ·have e:itemI ws s=(⟨{(bodyI k ⟨rs,s.items+1,0⟩).1.flat with pos:=t.pos},(bodyI k ⟨rs,s.items+1,0⟩).1.inner⟩,(bodyI k ⟨rs,s.items+1,0⟩).2):=by simp [itemI,bnd,start,hk,ret,hrs,hl,h6]
    rw [e]
    exact item_p4 ws es clock E b s W h r hr hbr hk t rs hrs k i hi h6 (hT.ent _ _ hl) (hbody _ _ hl)
end Go.Proofs.YtfaflipphkoiiaaDoor.Pr
namespace Go.Proofs.YtfaflipphkoiiaaDoor.Pr
open Go.RowKit Mem
open Lx (Tok)
def Fits:List (Bytes×Nat)→List MapEntry→Prop
 | [],[]=>True
 |p::ws,e::es=>(e.key= .string ⟨p.1.toArray⟩∧e.val= .func (.func (fid p.2)) #[] #[])∧Fits ws es
 |_,_=>False
theorem same_str (x y:Bytes):Instr.sameNow .string (.string ⟨x.toArray⟩) (.string ⟨y.toArray⟩)=some (x==y):=by
 simp only [Instr.sameNow]
 congr 1
 rw [Bool.eq_iff_iff,MapKept.bytes_beq]
 simp
theorem find_fits (x:Bytes): ∀(ws:List (Bytes×Nat)) (es:List MapEntry) (i:Nat),Fits ws es→
  (∀k,ws.lookup x=some k→ ∃j,Instr.findNow .string (.string ⟨x.toArray⟩) es i=some (some (j,.func (.func (fid k)) #[] #[])))∧(ws.lookup x=none→Instr.findNow .string (.string ⟨x.toArray⟩) es i=some none)
 | [],[],i,h=>⟨fun k hk=>by simp at hk,fun _=>rfl⟩
 |p::ws,[],i,h=>h.elim
 | [],e::es,i,h=>h.elim
 |(y,k0)::ws,e::es,i,h=>by
  obtain ⟨⟨h1,h2⟩,h3⟩:=h
  have ih:=find_fits x ws es (i+1) h3
  unfold Instr.findNow
  rw [h1,same_str,List.lookup_cons]
  cases hxy:x==y with
  |true=>
   refine ⟨fun k hk=>⟨i,?_⟩,fun hk=>?_⟩
   ·simp only at hk
    injection hk with hk
    simp only [h2,←hk]
   ·simp only at hk;cases hk
  |false=>
   simp only
   exact ih
theorem fits_inner:Fits innerWords innerEnts.toList:=by
 unfold innerWords innerEnts
 simp only [Fits]
 repeat' constructor
theorem fits_all:Fits allWords allEnts.toList:=by
 unfold allWords innerWords allEnts
 simp only [Fits,List.cons_append,List.nil_append]
 repeat' constructor
theorem lookup_mem {x:Bytes} {k:Nat}: ∀ {ws:List (Bytes×Nat)},ws.lookup x=some k→(x,k)∈ws
 |(y,k0)::ws,h=>by
  rw [List.lookup_cons] at h
  cases hxy:x==y with
  |true=>
   simp only [hxy] at h
   injection h with h
   obtain rfl:x=y:=by simpa using hxy
   subst h
   exact List.mem_cons_self
  |false=>simp only [hxy] at h;exact List.mem_cons_of_mem _ (lookup_mem h)
theorem kx3 {x:Bytes} {k:Nat} (h:innerWords.lookup x=some k):k=9∨k=10∨k=11∨k=12∨k=14:=by
 have:=lookup_mem h
 simp [innerWords] at this
 rcases this with h|h|h|h|h<;>simp [h.2]
theorem lookup_all {x:Bytes} {k:Nat} (h:allWords.lookup x=some k):1≤k∧k≤14:=by
 have:=lookup_mem h
 simp [allWords,innerWords] at this
 rcases this with h|h|h|h|h|h|h|h|h|h|h|h|h|h<;>simp [h.2]
theorem ent_role (args:Array Value) (W:World):(callFunc 62 args).run Tryd.prog W= .ok (.enter 62 args) W:=by kernel_rfl
theorem ent_unit (args:Array Value) (W:World):(callFunc 63 args).run Tryd.prog W= .ok (.enter 63 args) W:=by kernel_rfl
theorem ent_weekend (args:Array Value) (W:World):(callFunc 64 args).run Tryd.prog W= .ok (.enter 64 args) W:=by kernel_rfl
theorem ent_holiday (args:Array Value) (W:World):(callFunc 65 args).run Tryd.prog W= .ok (.enter 65 args) W:=by kernel_rfl
theorem ent_spanDefinition (args:Array Value) (W:World):(callFunc 66 args).run Tryd.prog W= .ok (.enter 66 args) W:=by kernel_rfl
theorem ent_sumDefinition (args:Array Value) (W:World):(callFunc 67 args).run Tryd.prog W= .ok (.enter 67 args) W:=by kernel_rfl
theorem ent_act (args:Array Value) (W:World):(callFunc 68 args).run Tryd.prog W= .ok (.enter 68 args) W:=by kernel_rfl
theorem ent_duty (args:Array Value) (W:World):(callFunc 88 args).run Tryd.prog W= .ok (.enter 88 args) W:=by kernel_rfl
theorem ent_ban (args:Array Value) (W:World):(callFunc 89 args).run Tryd.prog W= .ok (.enter 89 args) W:=by kernel_rfl
theorem ent_option (args:Array Value) (W:World):(callFunc 90 args).run Tryd.prog W= .ok (.enter 90 args) W:=by kernel_rfl
theorem ent_watch (args:Array Value) (W:World):(callFunc 91 args).run Tryd.prog W= .ok (.enter 91 args) W:=by kernel_rfl
theorem ent_template (args:Array Value) (W:World):(callFunc 69 args).run Tryd.prog W= .ok (.enter 69 args) W:=by kernel_rfl
theorem ent_include (args:Array Value) (W:World):(callFunc 92 args).run Tryd.prog W= .ok (.enter 92 args) W:=by kernel_rfl
theorem ent_fid (k:Nat) (h1:1≤k) (h2:k≤14) (args:Array Value) (W:World):(callFunc (fid k) args).run Tryd.prog W= .ok (.enter (fid k) args) W:=by
 obtain h|h|h|h|h|h|h|h|h|h|h|h|h|h:k=1∨k=2∨k=3∨k=4∨k=5∨k=6∨k=7∨k=8∨k=9∨k=10∨k=11∨k=12∨k=13∨k=14:=by omega
 all_goals subst h
 ·exact ent_party args W
 ·exact ent_role args W
 ·exact ent_unit args W
 ·exact ent_weekend args W
 ·exact ent_holiday args W
 ·exact ent_spanDefinition args W
 ·exact ent_sumDefinition args W
 ·exact ent_act args W
 ·exact ent_duty args W
 ·exact ent_ban args W
 ·exact ent_option args W
 ·exact ent_watch args W
 ·exact ent_template args W
 ·exact ent_include args W
theorem tab_inner:Tab innerWords innerEnts:=
 ⟨fun x k h=>(find_fits x _ _ 0 fits_inner).1 k h,fun x h=>(find_fits x _ _ 0 fits_inner).2 h,fun x k h args W=>ent_fid k (by have:=kx3 h;omega) (by have:=kx3 h;omega) args W⟩
theorem tab_all:Tab allWords allEnts:=
 ⟨fun x k h=>(find_fits x _ _ 0 fits_all).1 k h,fun x h=>(find_fits x _ _ 0 fits_all).2 h,fun x k h args W=>ent_fid k (lookup_all h).1 (lookup_all h).2 args W⟩
theorem start_kind {ws:List (Bytes×Nat)} {s:St} {kp:Nat×Nat} (h:(start ws s).1=some kp): ∃x,ws.lookup x=some kp.1:=by
 unfold start at h
 cases hk:isK 1 s with
 |false=>rw [hk] at h;simp at h
 |true=>
  rw [hk] at h
  simp only [if_true] at h
  cases hr:s.rest with
  |nil=>rw [hr] at h;simp at h
  |cons t r=>
   rw [hr] at h
   simp only at h
   cases hl:ws.lookup t.text with
   |none=>rw [hl] at h;simp at h
   |some k=>
    rw [hl] at h
    simp only at h
    by_cases h6:s.items=600
    ·rw [if_pos h6] at h;simp at h
    ·rw [if_neg h6] at h
     simp only [Option.some.injEq] at h
     exact ⟨_,by rw [hl,←h]⟩
theorem itemI_inner (s:St):itemI innerWords s=(⟨(inner s).1,[]⟩,(inner s).2):=by
 unfold itemI inner bnd
 cases h:(start innerWords s).1 with
 |none=>rfl
 |some kp=>
  obtain ⟨x,hx⟩:=start_kind h
  have hk:=kx3 hx
  have:kp.1≠13:=by omega
  simp only [bodyI,if_neg this]
  rfl
theorem itemI_all (s:St):itemI allWords s=item s:=by
 unfold itemI item bnd
 cases h:(start allWords s).1 with
 |none=>rfl
 |some kp=>
  by_cases h13:kp.1=13
  ·simp only [bodyI,if_pos h13]
  ·simp only [bodyI,if_neg h13]
   rfl
theorem inner_any (E:Env) (b:Nat) (s:St) (W:World) (h:PW E b s W) (r:Nat) (hr:W.heap[r]?=some (.map innerEnts 5)) (hbr:b<r):
  Calls Tryd.prog 39 #[.pointer (some ⟨b,0,none⟩),.map (some r)] W fun e w'=>(∃sc sd sn,e= .returned (.agg (icells (inner s).1 sc sd sn nil).toArray)∧FlatOK W.heap.size (inner s).1 sc sd sn w')∧After E b (inner s).2 W w':=by
 have:=item_any innerWords innerEnts 5 tab_inner E b (fun x k hx s W hP=>body_any k (by have:=kx3 hx;omega) E b s W hP) s W h r hr hbr
 rw [itemI_inner] at this
 refine this.mono ?_
 rintro e w' ⟨⟨sc,sd,sn,si,rfl,hF,hR⟩,hA⟩
 obtain rfl:=hR.1 rfl
 exact ⟨⟨sc,sd,sn,rfl,hF⟩,hA⟩
end Go.Proofs.YtfaflipphkoiiaaDoor.Pr
namespace Go.Proofs.YtfaflipphkoiiaaDoor.Pr
open Go.RowKit Mem
open Lx (Tok)
theorem info_itemz: ∃z,(Tryd.prog.info? 57).map (fun i=>(i.zero,i.size,i.bytes))=some (some z,33,368)∧z.cells.size=33:=⟨.agg (icells flat0 nil nil nil nil).toArray,by kernel_rfl,rfl⟩
theorem build_tmpl (n:Bytes) (w:World):(Instr.build 57 #[(0,.int .i64 13),(1,.string ⟨n.toArray⟩)]).run Tryd.prog w= .ok (.agg (icells {flat0 with kind:=13,name:=n} nil nil nil nil).toArray) w:=by kernel_rfl
theorem run_bslice (f:Flat) (sc sd sn si:Value) (w:World):(Instr.buildSlice 25 1 #[(0,.agg (icells f sc sd sn si).toArray)]).run Tryd.prog w= .ok (.slice (some ⟨w.heap.size,0,none⟩) 1 1) (w.alloc (.cells (icells f sc sd sn si).toArray 57)):=by kernel_rfl
theorem ent_item (args:Array Value) (W:World):(callFunc 39 args).run Tryd.prog W= .ok (.enter 39 args) W:=by kernel_rfl
theorem step_call2 {ops:Array Oper} {o:Oper} {a:Act} {w:World} {K:Act→World→Prop} {Q:Exit→Act→World→Prop} {X:Prop} (hg:o.guard=none) (f:Nat) (x0 x1:Operand) (ts:Array TypeId) (hop:o.op=Op.call {callee:=Callee.value (Operand.func f),args:= #[x0,x1],argTypes:=ts})
  (hent: ∀args W,(callFunc f args).run Tryd.prog W= .ok (.enter f args) W) (v0 v1:Value) (hx:a.eval x0=v0) (hy:a.eval x1=v1) {R:Ending→World→Prop} (hc:Calls Tryd.prog f #[v0,v1] w R) (h: ∀e w',R e w'→ ∃v,e= .returned v∧K (a.put o.dst v) w'):
  if Region.wanted o (yielded ops a.tmps)=true then Oper.wp Tryd.prog o a w K Q else X:=
 step_call hg f #[x0,x1] ts hop hent #[v0,v1] (by simp [hx,hy]) hc h
theorem IB.set_si {q:Nat} {f:Flat} {sc sd sn si:Value} {W:World} (h:IB q f sc sd sn si W) (x:Value):IB q f sc sd sn x (W.setCell ⟨q,32,none⟩ x):=by
 have h2:=jx4 h 32 x
 exact h2
theorem own_grown {w w':World} {base:Nat} {e:TypeId} {z:Nat} {u:Value} {n:Nat} {xs:List Value} {row:Option Nat} (h:w.ownsRow base e z u n xs) (hg:w.grownBy w' row) (hne: ∀g,u.ownBlock=some g→row≠some g):w'.ownsRow base e z u n xs:=by
 refine ⟨h.1,?_⟩
 rcases h.2 with h2|⟨g,cap,cur,hv,hb,hh,r⟩
 ·exact .inl h2
 ·subst hv
  exact .inr ⟨g,cap,cur,rfl,hb,(hg.block g (jq7 hh) (fun e=>hne g rfl e.symm)).trans hh,r⟩
theorem kx7 {w:World} {b1 b2:Nat} {e1 e2:TypeId} {z1 z2:Nat} {v1 v2:Value} {n1 n2:Nat} {x1 x2:List Value} (h1:w.ownsRow b1 e1 z1 v1 n1 x1) (h2:w.ownsRow b2 e2 z2 v2 n2 x2) (hne:e1≠e2): ∀g,v1.ownBlock=some g→v2.ownBlock≠some g:=by
 intro g hg1 hg2
 rcases h1.2 with ⟨rfl,_⟩|⟨a,c,cur,rfl,_,hh,_⟩
 ·cases hg1
 rcases h2.2 with ⟨rfl,_⟩|⟨a',c',cur',rfl,_,hh',_⟩
 ·cases hg2
 simp only [Value.ownBlock] at hg1 hg2
 injection hg1 with hg1
 injection hg2 with hg2
 subst hg1 hg2
 rw [hh] at hh'
 injection hh' with hh'
 injection hh' with _ e _
 exact hne e
theorem FlatOK.grown {w w':World} {base b2 n:Nat} {f:Flat} {sc sd sn v:Value} {xs:List Value} (h:FlatOK base f sc sd sn w) (hv:w.ownsRow b2 57 33 v n xs) (hg:w.grownBy w' v.ownBlock):FlatOK base f sc sd sn w':=
 ⟨own_grown h.1 hg (kx7 h.1 hv (by decide)),own_grown h.2.1 hg (kx7 h.2.1 hv (by decide)),own_grown h.2.2 hg (kx7 h.2.2 hv (by decide))⟩
theorem RowI.grown {w w':World} {base b2 n:Nat} {l:List Flat} {si v:Value} {xs:List Value} (h:RowI base l si w) (hv:w.ownsRow b2 57 33 v n xs) (hg:w.grownBy w' v.ownBlock) (hne: ∀g,si.ownBlock=some g→v.ownBlock≠some g):RowI base l si w':=by
 obtain ⟨h0,vs,h1,h2,h3⟩:=h
 exact ⟨h0,vs,h1,own_grown h2 hg hne,fun p hp=>(h3 p hp).grown hv hg⟩
theorem RowI.lt {w:World} {base:Nat} {l:List Flat} {si:Value} (h:RowI base l si w): ∀g,si.ownBlock=some g→base≤g∧g<w.heap.size:=by
 obtain ⟨_,vs,_,h2,_⟩:=h
 exact own_lt h2
abbrev Sl:=Value×Value×Value×Value
def scells (l:List Item) (vs:List Sl):List Value:=(l.zip vs).flatMap fun p=>icells p.1.flat p.2.1 p.2.2.1 p.2.2.2.1 p.2.2.2.2
def RowSv (base:Nat) (l:List Item) (vs:List Sl) (v:Value) (W:World):Prop:=
 (l= []→v=nil)∧vs.length=l.length∧W.ownsRow base 57 33 v l.length (scells l vs)∧
  ∀p∈l.zip vs,FlatOK base p.1.flat p.2.1 p.2.2.1 p.2.2.2.1 W∧RowI base p.1.inner p.2.2.2.2 W∧ ∀g,p.2.2.2.2.ownBlock=some g→v.ownBlock≠some g
def RowS (base:Nat) (l:List Item) (v:Value) (W:World):Prop:= ∃vs,RowSv base l vs v W
theorem RowSv.nil (base:Nat) (W:World):RowSv base [] [] nil W:=⟨fun _=>rfl,rfl,World.ownsRow_nil _ _ _ _,fun p hp=>by cases hp⟩
theorem RowSv.carry {base base':Nat} {l:List Item} {vs:List Sl} {v:Value} {W W':World} (h:RowSv base l vs v W) (hc: ∀e z v n xs,W.ownsRow base e z v n xs→W'.ownsRow base' e z v n xs):RowSv base' l vs v W':=
 ⟨h.1,h.2.1,hc _ _ _ _ _ h.2.2.1,fun p hp=>⟨(h.2.2.2 p hp).1.carry hc,(h.2.2.2 p hp).2.1.carry hc,(h.2.2.2 p hp).2.2⟩⟩
theorem RowSv.fr {base:Nat} {l:List Item} {vs:List Sl} {v:Value} {W W':World} {S:Nat→Prop} (h:RowSv base l vs v W) (hf:Fr S W W') (hs: ∀k,base≤k→k<W.heap.size→ ¬S k):RowSv base l vs v W':=
 h.carry fun e z v n xs ho=>jx5 ho hf hs
theorem RowSv.form {base:Nat} {l:List Item} {vs:List Sl} {v:Value} {W:World} (h:RowSv base l vs v W): ∃A cap,v= .slice A l.length cap:=own_form h.2.2.1
theorem RowSv.snoc {base:Nat} {l:List Item} {vs:List Sl} {v:Value} {wr w2 w5:World} {ob:Obj} {S:Nat→Prop} (h:RowSv base l vs v wr) (hf:Fr S wr w2) (hs: ∀k,base≤k→k<wr.heap.size→ ¬S k) (hb:base≤wr.heap.size) {x:Item} {sc sd sn si:Value}
  (hF:FlatOK wr.heap.size x.flat sc sd sn w2) (hI:RowI wr.heap.size x.inner si w2) (hg:(w2.alloc ob).grownBy w5 v.ownBlock) {g cap:Nat} (hown:w5.ownsRow base 57 33 (.slice (some ⟨g,0,none⟩) (l.length+1) cap) (l.length+1) (scells l vs++icells x.flat sc sd sn si)) (hat:v.ownBlock=some g∨g=w2.heap.size+1):
  RowSv base (l++ [x]) (vs++ [(sc,sd,sn,si)]) (.slice (some ⟨g,0,none⟩) (l.length+1) cap) w5:=by
 have h2:=h.fr hf hs
 have hsz:=hf.size
 have h3:=h2.fr (S:=fun _=>False) ((Fr.refl _ _).alloc ob) (fun _ _ _ h=>h)
 have hv:=h3.2.2.1
 have hvl:=own_lt h.2.2.1
 have hz:(l++ [x]).zip (vs++ [(sc,sd,sn,si)])=l.zip vs++ [(x,sc,sd,sn,si)]:=by
  rw [List.zip_append h.2.1.symm];rfl
 refine ⟨fun e=>by simp at e,by simp [h.2.1],?_,?_⟩
 ·unfold scells
  rw [hz,List.flatMap_append,List.length_append]
  have e: [(x,sc,sd,sn,si)].flatMap (fun p:Item×Sl=>icells p.1.flat p.2.1 p.2.2.1 p.2.2.2.1 p.2.2.2.2)=icells x.flat sc sd sn si:=by simp
  rw [e]
  exact hown
 ·rw [hz]
  intro p hp
  rcases List.mem_append.1 hp with hp|hp
  ·obtain ⟨p1,p2,p3⟩:=h3.2.2.2 p hp
   refine ⟨p1.grown hv hg,p2.grown hv hg p3,?_⟩
   intro k hk e
   simp only [Value.ownBlock] at e
   injection e with e
   rcases hat with hat|hat
   ·exact p3 k hk (by rw [hat,e])
   ·have:=((h2.2.2.2 p hp).2.1.lt k hk).2
    omega
  ·rw [List.mem_singleton] at hp
   subst hp
   have hF2:FlatOK wr.heap.size x.flat sc sd sn (w2.alloc ob):=hF.carry fun e z v n xs ho=>jx5 ho ((Fr.refl (fun _=>False) _).alloc ob) (fun _ _ _ h=>h)
   have hI2:RowI wr.heap.size x.inner si (w2.alloc ob):=hI.carry fun e z v n xs ho=>jx5 ho ((Fr.refl (fun _=>False) _).alloc ob) (fun _ _ _ h=>h)
   have hne: ∀k,si.ownBlock=some k→v.ownBlock≠some k:=fun k hk e=>by
    have:=(hI.lt k hk).1
    have:=(hvl k e).2
    omega
   have hF3:=hF2.grown hv hg
   have hI3:=hI2.grown hv hg hne
   refine ⟨hF3.carry fun e z v n xs ho=>own_base ho hb,hI3.carry fun e z v n xs ho=>own_base ho hb,?_⟩
   intro k hk e
   simp only [Value.ownBlock] at e
   injection e with e
   rcases hat with hat|hat
   ·exact hne k hk (by rw [hat,e])
   ·have:=(hI.lt k hk).2
    omega
theorem RowSv.set {base:Nat} {l:List Item} {vs:List Sl} {v:Value} {W:World} (h:RowSv base l vs v W) {q i:Nat} (hq:q<base) (u:Value):RowSv base l vs v (W.setCell ⟨q,i,none⟩ u):=
 h.fr (S:=fun k=>k=q) ((Fr.refl _ _).setb i u) (fun k hk _ e=>by omega)
theorem fm_congr {α β:Type} {f g:α→List β}: ∀(l:List α),(∀x∈l,f x=g x)→l.flatMap f=l.flatMap g
 | [],_=>rfl
 |a::l,h=>by rw [List.flatMap_cons,List.flatMap_cons,h a List.mem_cons_self,fm_congr l fun x hx=>h x (List.mem_cons_of_mem _ hx)]
def solo (l:List Flat):List Item:=l.map fun f=>⟨f,[]⟩
theorem RowSv.inner {base:Nat} {l:List Flat} {v:Value} {W:World} {vs:List Sl} (h:RowSv base (solo l) vs v W):RowI base l v W:=by
 obtain ⟨h0,h1,h2,h3⟩:=h
 have hl:(solo l).length=l.length:=by simp [solo]
 have hzip:(solo l).zip vs=(l.zip vs).map fun p=>(⟨p.1,[]⟩,p.2):=by
  unfold solo
  rw [List.zip_map_left]
  rfl
 have hnil: ∀p∈l.zip vs,p.2.2.2.2=Pr.nil:=by
  intro p hp
  exact (h3 (⟨p.1,[]⟩,p.2) (by rw [hzip];exact List.mem_map.2 ⟨p,hp,rfl⟩)).2.1.1 rfl
 refine ⟨fun e=>h0 (by rw [e];rfl),vs.map fun q=>(q.1,q.2.1,q.2.2.1),by rw [List.length_map,h1,hl],?_,?_⟩
 ·rw [hl] at h2
  have e:scells (solo l) vs=(l.zip (vs.map fun q=>(q.1,q.2.1,q.2.2.1))).flatMap fun p=>icells p.1 p.2.1 p.2.2.1 p.2.2.2 Pr.nil:=by
   unfold scells
   rw [hzip,List.zip_map_right,List.flatMap_map,List.flatMap_map]
   refine fm_congr _ fun p hp=>?_
   show icells p.1 p.2.1 p.2.2.1 p.2.2.2.1 p.2.2.2.2=icells p.1 p.2.1 p.2.2.1 p.2.2.2.1 Pr.nil
   rw [hnil p hp]
  rw [←e]
  exact h2
 ·intro p hp
  rw [List.zip_map_right] at hp
  obtain ⟨q,hq,rfl⟩:=List.mem_map.1 hp
  exact (h3 (⟨q.1,[]⟩,q.2) (by rw [hzip];exact List.mem_map.2 ⟨q,hq,rfl⟩)).1
theorem After2.grown {E:Env} {b q:Nat} {s:St} {W W1 w4:World} {v:Value} {o:Obj} (h:After2 E b q s W W1) (hg:(W1.alloc o).grownBy w4 v.ownBlock) (hv: ∀g,v.ownBlock=some g→W.heap.size≤g) (hb:b<W.heap.size):After2 E b q s W w4:=by
 have h2:Fr (fun k=>W.heap.size≤k) W1 w4:=((Fr.refl _ _).alloc o).grown hg (fun k hk=> .inl (hv k hk))
 exact ⟨h.1.fr h2 (fun k hk hs=>by omega),h.2.trans' h2 (fun i hi hs=>by omega)⟩
def okn (b:Nat) (w:World):Nat:=match w.cell? ⟨b,4,none⟩ with|some (.int _ 0)=>1|_=>0
theorem PW.okn {E:Env} {b:Nat} {s:St} {w:World} (h:PW E b s w):okn b w=if s.err=0 then 1 else 0:=by
 obtain ⟨n,h1,h2,_,_,_,_,c4,_⟩:=h.cells
 unfold Pr.okn
 rw [c4]
 by_cases he:s.err=0
 ·simp [he]
 ·rw [if_neg he]
  split
  ·rename_i h
   injection h with h
   injection h with _ h
   omega
  ·rfl
end Go.Proofs.YtfaflipphkoiiaaDoor.Pr
namespace Go.Proofs.YtfaflipphkoiiaaDoor.Pr
open Go.RowKit Mem
open Lx (Tok)
theorem jv4 (f:Flat) (sc sd sn si:Value) (h1: ∃A n c,sc= .slice A n c) (h2: ∃A n c,sd= .slice A n c) (h3: ∃A n c,sn= .slice A n c) (h4: ∃A n c,si= .slice A n c): ∀u∈icells f sc sd sn si,u.oneCell'=true:=by
 have:=jv2 f sc sd sn si h1 h2 h3 h4
 rw [←Array.all_toList] at this
 exact List.all_eq_true.1 this
theorem fold_icells (f:Flat) (sc sd sn si:Value):List.foldl (fun (cs:Array Value) (x:Value×Nat)=>cs.setIfInBounds x.snd x.fst) #[.int .i64 0,.string ⟨#[]⟩,.int .i64 0,.string ⟨#[]⟩,.string ⟨#[]⟩,.int .i64 0,.int .i64 0,.int .i64 0,.bool false,.string ⟨#[]⟩,.int .i64 0,.bool false,.string ⟨#[]⟩,.slice none 0 0,.string ⟨#[]⟩,.string ⟨#[]⟩,.int .i64 0,.int .i64 0,.string ⟨#[]⟩,.string ⟨#[]⟩,.bool false,.string ⟨#[]⟩,.string ⟨#[]⟩,.bool false,.bool false,.bool false,.bool false,.bool false,.bool false,.bool false,.slice none 0 0,.slice none 0 0,.slice none 0 0] (icells f sc sd sn si).zipIdx=(icells f sc sd sn si).toArray:=by kernel_rfl
theorem kx0 (l:List Flat) (x:Flat):solo (l++ [x])=solo l++ [⟨x,[]⟩]:=by simp [solo]
def TRel (E:Env) (b q:Nat) (fl:Flat) (sn:Value) (w0:World) (R:List Flat) (sr:St) (wr:World):Prop:=
 ∃(l:List Flat) (s':St) (f:Nat) (vs:List Sl) (si:Value),IB q fl nil nil sn si wr∧RowSv w0.heap.size (solo l) vs si wr∧After2 E b q s' w0 wr∧(s'.err=0→s'.rest.length<f)∧(solo l).length+s'.rest.length+(if s'.err=0 then 1 else 0)≤5002∧(l++(tmplMore f s').1,(tmplMore f s').2)=(R,sr)
theorem is_after (E:Env) (b:Nat) (s:St) (x:Bytes) (W:World) (h:PW E b s W):
  Calls Tryd.prog 87 #[.pointer (some ⟨b,0,none⟩),.string ⟨x.toArray⟩] W fun e w'=>e= .returned (.bool (isT x s))∧After E b s W w':=
 (is_any E b s x W h).mono fun e w' ⟨he,m,hm⟩=>⟨he,by subst hm;exact (After.start h).drewN m⟩
theorem acc_isT (x:Bytes) (s:St):(acc x s).1=isT x s:=by unfold acc;cases isT x s<;>rfl
theorem acc_same {x:Bytes} {s:St} (h:isT x s=false):(acc x s).2=s:=by unfold acc;rw [h];rfl
theorem expect_yes {x:Bytes} {s:St} (h:isT x s=true):(expect [x] s).2=(acc x s).2:=by
 have:acc x s=(true,(acc x s).2):=by rw [←h,←acc_isT]
 show (bnd (acc x) (fun b=>if b then expect [] else Pr.fail) s).2=_
 rw [jz1 this]
 rfl
theorem isT_bad {x:Bytes} {s:St} (h:s.err≠0):isT x s=false:=by simp [isT,h]
theorem expect_bad {x:Bytes} {s:St} (h:s.err≠0):(expect [x] s).2=s:=by
 have:acc x s=(false,s):=by unfold acc;rw [isT_bad h];rfl
 show (bnd (acc x) (fun b=>if b then expect [] else Pr.fail) s).2=_
 rw [jx9 this]
 show (if s.err≠0 then s else _)=s
 rw [if_pos h]
theorem template_any (E:Env) (b:Nat) (s:St) (W:World) (h:PW E b s W):
  Calls Tryd.prog 69 #[.pointer (some ⟨b,0,none⟩)] W fun e w'=>ItemEnd E b (template s).1 (template s).2 W e w':=by
 have hbl:=h.2.2.1
 obtain ⟨zv,hzz,hz33⟩:=info_itemz
 obtain ⟨i0,hi,hz0,hz1,hz2⟩:=info_parts hzz
 obtain ⟨n,s1,h1⟩: ∃x s',name s=(x,s'):=⟨_,_,rfl⟩
 obtain ⟨L,s2,h2⟩: ∃x s',names s1=(x,s'):=⟨_,_,rfl⟩
 obtain ⟨u3,s3,h3⟩: ∃x s',expect [[123]] s2=(x,s'):=⟨_,_,rfl⟩
 obtain ⟨R,sr,h4⟩: ∃R sr,long tmplMore s3=(R,sr):=⟨_,_,rfl⟩
 have hp:template s=(⟨{flat0 with kind:=13,name:=n,names:=L},R⟩,sr):=(jq3 h1).trans ((jq3 h2).trans ((jx1 h3).trans ((jq3 h4).trans rfl)))
 rw [hp]
 have HP:=hdd h;have H1:=hdd h1;have H2:=hdd h2;have H3:=hdd h3;have H4:=hdd h4
 clear h h1 h2 h3 h4 hp hzz
 go_enter Tryd.func69,Tryd.ntmps69
 go_wp2_with fail
 refine (name_any E b s _ ((After.start HP.o).alloc _).1).mono ?_
 rw [H1.o]
 rintro e w1 ⟨rfl,hA⟩
 have HR:Hid (I0 W w1):=hA.2.blk (jq5 (by simp)) (by omega)
 have HA:=hdd (((After.start HP.o).alloc _).trans hA)
 have hs1:W.heap.size<w1.heap.size:=by have:=hA.2.size;simp only [World.size_alloc] at this;omega
 clear hA
 go_wp2_with (first|(refine wpList_build rfl 57 _ rfl #[(0,.int .i64 13),(1,.string ⟨n.toArray⟩)] ?_ _ (build_tmpl n _) ?_;(simp [Act.eval]))|(refine jq4 rfl 57 _ _ rfl rfl (icells {flat0 with kind:=13,name:=n} nil nil nil nil).toArray rfl (jq6 _ _ _ _ _) (ic1 ..) (by rfl) ?_))
 refine (names_any E b s1 _ (HA.o.alloc _).1).mono ?_
 rw [H2.o]
 rintro e w2 ⟨⟨sn,rfl,hO⟩,hA⟩
 obtain ⟨An,cn,rfl⟩:=own_form hO
 have HR2:Hid (I0 W w2):=hA.2.blk (jq9 HR.o _) (by omega)
 have HI2:Hid (I4 w1.heap.size {flat0 with kind:=13,name:=n} w2):=hA.2.blk (jq5 (by simp)) (by omega)
 have HN2:Hid (w2.ownsRow (w1.heap.size+1) 9 1 (.slice An L.length cn) L.length (L.map sv)):=own_base hO (by simp only [World.size_alloc];omega)
 have HA2:=hdd ((HA.o.alloc _).trans hA)
 clear hA hO HA HR
 have hq2:=jq7 HI2.o
 have kn:w2.cell? ⟨w1.heap.size,31,none⟩=some nil:=jq0 HI2.o 31
 unfold nil at kn
 have fn:w2.frozen? ⟨w1.heap.size,31,none⟩=false:=jq1 HI2.o 31
 go_wp2_with fail
 refine (expect1 E b s2 [123] _ _ (by simp) (HA2.o.set (i:=31) (by omega) (by omega) (.slice An L.length cn)).1).mono ?_
 rw [H3.o]
 rintro e w3 ⟨rfl,hA⟩
 have HR3:Hid (I0 W w3):=hA.2.blk (jq2 HR2.o (by omega) (.slice An L.length cn)) (by omega)
 have HI3:Hid (IB w1.heap.size {flat0 with kind:=13,name:=n,names:=L} nil nil (.slice An L.length cn) nil w3):=hA.2.blk (IB.set_sn HI2.o (.slice An L.length cn)) (by omega)
 have HN3:=hdd (jx5 (jv0 (c:=w1.heap.size) (i:=31) HN2.o (fun g hg=>by have:=(own_lt HN2.o g hg).1;omega) (.slice An L.length cn)) hA.2 (fun k hk _ e=>by omega))
 have HA3:=hdd ((HA2.o.set (i:=31) (by omega) (by omega) (.slice An L.length cn)).trans hA)
 clear hA HA2 HR2 HI2 HN2 kn fn
 have hq3:=jq7 HI3.o
 go_wp2_with fail
 refine (innerKinds_any _).mono ?_
 rintro e w4 ⟨rfl,hm4,hfr⟩
 have HR0:Hid (I0 W w4):=hfr.blk HR3.o (fun h=>h)
 have HI0:Hid (IB w1.heap.size {flat0 with kind:=13,name:=n,names:=L} nil nil (.slice An L.length cn) nil w4):=hfr.blk HI3.o (fun h=>h)
 have HN0:=hdd (jx5 HN3.o hfr (fun k hk _ h=>h))
 have HA0:Hid (After E b s3 W w4):=⟨HA3.o.1.fr hfr (fun k hk h=>h),HA3.o.2.trans' hfr (fun i hi h=>h.elim)⟩
 have HM0:=hdd hm4
 have hr4:=jq7 hm4
 clear hm4 hfr HA3 HR3 HI3 HN3
 generalize hqq:w1.heap.size=q at*
 generalize hrr:w3.heap.size=r at*
 have hln:=HA0.o.1.len
 go_wp2_with fail
 go_loopw [] (fun wr=>TRel E b q {flat0 with kind:=13,name:=n,names:=L} (.slice An L.length cn) w4 R sr wr) (fun wr=>2*lft E b wr+okn b wr)
 case atStart=>exact ⟨[],s3,s3.rest.length+1,[],nil,HI0.o,RowSv.nil _ _,After2.start HA0.o.1,fun _=>by omega,by simp [solo];split<;>omega,by have:=H4.o;unfold long at this;rw [this];rfl⟩
 case round=>
  obtain ⟨l,s',f,vs,si,hI,hRS,hA,hf,hb,hX⟩:=hrel
  have hlf:=hA.1.lft
  have hok:=hA.1.okn
  have hsz:=hA.2.size
  obtain ⟨A5,cap5,rfl⟩:=hRS.form
  have HA:=hdd hA;clear hA
  have HI:=hdd hI;clear hI
  have HRS:=hdd hRS;clear hRS
  by_cases he:s'.err=0
  ·obtain ⟨f,rfl⟩: ∃g,f=g+1:=⟨f-1,by have:=hf he;omega⟩
   rw [kz0 f s' he] at hX
   cases hT:isT [125] s' with
   |true=>
    rw [acc_isT,hT] at hX
    simp only [if_true] at hX
    have hex:(expect [[125]] s').2=sr:=by rw [expect_yes hT];injection hX
    have hRl:l=R:=by have:=congrArg Prod.fst hX;simpa using this
    subst hRl
    have HEX:=hdd hex;have HT:=hdd hT;have HE:=hdd he
    clear hex hT hX he hlf hok hf hb
    go_wp2_with fail
    refine (ok_yes E b s' _ HA.o.1 HE.o).mono ?_
    rintro e w7 ⟨rfl,rfl⟩
    go_wp2_with fail
    refine (is_after E b s' [125] _ HA.o.1).mono ?_
    rw [HT.o]
    rintro e w8 ⟨rfl,hA8⟩
    have HI8:Hid (IB q {flat0 with kind:=13,name:=n,names:=L} nil nil (.slice An L.length cn) (.slice A5 (solo l).length cap5) w8):=hA8.2.blk HI.o (by omega)
    have HRS8:=hdd (HRS.o.fr hA8.2 (fun k hk _ e=>by omega))
    have HA8:=hdd (HA.o.trans hA8)
    have hsz8:=hA8.2.size
    clear hA8 HA HI HRS
    have HA:=hdd HA8.o;have HI:=hdd HI8.o;have HRS:=hdd HRS8.o
    clear HA8 HI8 HRS8
    go_wp2_with fail
    refine (expect1 E b s' [125] _ _ (by simp) HA.o.1).mono ?_
    rw [HEX.o]
    rintro e w9 ⟨rfl,hA9⟩
    have HA9:=hdd (HA.o.trans hA9)
    have HI9:Hid (IB q {flat0 with kind:=13,name:=n,names:=L} nil nil (.slice An L.length cn) (.slice A5 (solo l).length cap5) w9):=hA9.2.blk HI.o (by omega)
    have HRS9:=hdd (HRS.o.fr hA9.2 (fun k hk _ e=>by omega))
    have HAW:=hdd (HA0.o.ptr HA9.o (by omega))
    have HR9:Hid (I0 W w9):=HA9.o.2.blk HR0.o (by omega)
    have HN9:=hdd (jx5 HN0.o HA9.o.2 (fun k hk _ e=>by omega))
    clear hA9 HA HI HRS
    obtain ⟨w99,hw99,hA99,hl99,ho99⟩:=item_end HR9.o HAW.o hbl {flat0 with kind:=13,name:=n,names:=L} nil nil (.slice An L.length cn) (.slice A5 (solo l).length cap5)
    have R99:=hdd (own_base (ho99 _ _ _ _ _ _ (by omega) HN9.o) (by omega:W.heap.size≤_))
    have RI99:Hid (RowI W.heap.size l (.slice A5 (solo l).length cap5) w99):=HRS9.o.inner.carry fun e z v n xs ho=>own_base (ho99 _ _ _ _ _ _ (by omega) ho) (by omega)
    have HW99:=hdd hw99;clear hw99
    have HA99:=hdd hA99;clear hA99
    have HL99:=hdd hl99;clear hl99 ho99
    go_wp2_with (first|(refine wpList_load_mid rfl 57 _ rfl q 0 rfl (icells {flat0 with kind:=13,name:=n,names:=L} nil nil (.slice An L.length cn) (.slice A5 (solo l).length cap5)) _ HI9.o.range Tryd.underlying57 rfl (jx6 _ _ _ _ _) ?_)|(refine wpList_store_mid rfl 57 _ _ rfl W.heap.size 0 (icells {flat0 with kind:=13,name:=n,names:=L} nil nil (.slice An L.length cn) (.slice A5 (solo l).length cap5)).toArray rfl rfl (HR9.o.there' _ _ _ _ _) (jq6 _ _ _ _ _) (ic1 ..) ?_;rw [HW99.o]))
    exact bodyPost_ret (v:= .agg (icells {flat0 with kind:=13,name:=n,names:=L} nil nil (.slice An L.length cn) (.slice A5 (solo l).length cap5)).toArray) (jq8 Tryd.results69 rfl HL99.o) rfl ⟨⟨nil,nil,_,_,rfl,⟨World.ownsRow_nil _ _ _ _,World.ownsRow_nil _ _ _ _,R99.o⟩,RI99.o⟩,HA99.o⟩
   |false=>
    have hac:=acc_same hT
    have hX3:(l++(inner s').1::(tmplMore f (inner s').2).1,(tmplMore f (inner s').2).2)=(R,sr):=by rw [acc_isT,hT,hac] at hX;exact hX
    have hpr:=inner_prog s'
    obtain ⟨x,sx,hx⟩: ∃x sx,inner s'=(x,sx):=⟨_,_,rfl⟩
    rw [hx] at hX3 hpr
    have hf2:=hf he
    rw [if_pos he] at hb hok
    have HX:=hdd hX3;have HXX:=hdd hx;have HT:=hdd hT;have HE:=hdd he;have HLF:=hdd hlf;have HOK:=hdd hok
    clear hX3 hx hT hX he hlf hok hf hac
    go_wp2_with fail
    refine (ok_yes E b s' _ HA.o.1 HE.o).mono ?_
    rintro e w7 ⟨rfl,rfl⟩
    go_wp2_with fail
    refine (is_after E b s' [125] _ HA.o.1).mono ?_
    rw [HT.o]
    rintro e w8 ⟨rfl,hA8⟩
    have HI8:Hid (IB q {flat0 with kind:=13,name:=n,names:=L} nil nil (.slice An L.length cn) (.slice A5 (solo l).length cap5) w8):=hA8.2.blk HI.o (by omega)
    have HRS8:=hdd (HRS.o.fr hA8.2 (fun k hk _ e=>by omega))
    have HA8:=hdd (HA.o.trans hA8)
    have hsz8:=hA8.2.size
    clear hA8 HA HI HRS
    have HA:=hdd HA8.o;have HI:=hdd HI8.o;have HRS:=hdd HRS8.o
    clear HA8 HI8 HRS8
    have HAd:Hid (After2 E b q s' w4 w8.drew):=HA.o.drewN 1
    have HId:Hid (IB q {flat0 with kind:=13,name:=n,names:=L} nil nil (.slice An L.length cn) (.slice A5 (solo l).length cap5) w8.drew):=HI.o
    have HRd:Hid (RowSv w4.heap.size (solo l) vs (.slice A5 (solo l).length cap5) w8.drew):=HRS.o
    have HMd:Hid (w8.drew.heap[r]?=some (.map innerEnts 5)):=HAd.o.2.blk HM0.o (by omega)
    have hqlt:=jq7 HId.o
    have k32:w8.cell? ⟨q,32,none⟩=some (.slice A5 (solo l).length cap5):=jq0 HId.o 32
    clear HA HI HRS
    go_wp2_with fail
    go_region_law (first|(refine step_call2 rfl 39 _ _ _ rfl ent_item (.pointer (some ⟨b,0,none⟩)) (.map (some r)) (by rfl) (by rfl) (inner_any E b s' w8.drew HAd.o.1 r HMd.o (by omega)) ?_;rw [HXX.o];rintro e v2 ⟨⟨sc,sd,sn,rfl,hF2⟩,hA2⟩;refine ⟨_,rfl,?_⟩;have HA2:=hdd (HAd.o.trans hA2);have HI2:Hid (IB q {flat0 with kind:=13,name:=n,names:=L} nil nil (.slice An L.length cn) (.slice A5 (solo l).length cap5) v2):=(hA2.2.blk HId.o (by omega));have HF2:=hdd hF2;have hil:=jj6 x sc sd sn nil;have hif:=fold_icells x sc sd sn nil;have HFR2:=hdd hA2.2;have HR2:=hdd (HRd.o.fr hA2.2 (fun k hk _ e=>by omega));have j32:v2.cell? ⟨q,32,none⟩=some (.slice A5 (solo l).length cap5):=(jq0 HI2.o 32);have j32a: ∀o,(v2.alloc o).cell? ⟨q,32,none⟩=some (.slice A5 (solo l).length cap5):=(fun o=>jq0 (jq9 HI2.o o) 32);have hz2w:=hA2.2.size;clear hA2 hF2)|(refine step_append_lies _ rfl (.tmp 23) (.tmp 27) 25 rfl w4.heap.size 57 i0 _ 33 368 Tryd.underlying25 hi hz0 hz1 hz2 hz33 (by decide) (.slice A5 (solo l).length cap5) (solo l).length _ (by rfl) (HR2.o.2.2.1.alloc _) ⟨v2.heap.size,0,none⟩ 1 1 (icells x sc sd sn nil) (by rfl) (by rfl) (World.news_of_block (cs:=(icells x sc sd sn nil).toArray) (t:=57) (fr:=(0,0)) (heap_alloc_new v2 _)) (jv4 _ _ _ _ _ HF2.o.forms.1 HF2.o.forms.2.1 HF2.o.forms.2.2 ⟨_,_,_,rfl⟩) (by decide) (by simp only [maxLen];omega) (by omega) (by simp only [World.size_alloc];have:w8.drew.heap.size=w8.heap.size:=rfl;omega) (v2.heap.size+1) (by simp) ?_;intro gg cap1 w5 hown5 hgrow hat hlt5;have HS5:=hdd (HRd.o.snoc (x:=⟨x,[]⟩) HFR2.o (fun k hk _ e=>by omega) (by show _≤w8.heap.size;omega) HF2.o (RowI.nil _ _) hgrow hown5 hat);have HA5:=hdd (HA2.o.grown hgrow (fun g hg=>(own_lt HR2.o.2.2.1 g hg).1) (by omega));have HI5:Hid (IB q {flat0 with kind:=13,name:=n,names:=L} nil nil (.slice An L.length cn) (.slice A5 (solo l).length cap5) w5):=(kq9 hgrow HI2.o (fun g hg e=>by have:=(own_lt HR2.o.2.2.1 g hg).1;omega));have e0:w5.cell? ⟨q,32,none⟩=some (.slice A5 (solo l).length cap5):=(jq0 HI5.o 32);have e1:w5.frozen? ⟨q,32,none⟩=false:=(jq1 HI5.o 32);clear hown5 hgrow hat))
    all_goals
     have HI6:=hdd (IB.set_si HI5.o (.slice (some ⟨gg,0,none⟩) ((solo l).length+1) cap1))
     have HS6:=hdd (HS5.o.set (q:=q) (i:=32) (by omega) (.slice (some ⟨gg,0,none⟩) ((solo l).length+1) cap1))
     have HA6:=hdd (HA5.o.set (i:=32) (by omega) (.slice (some ⟨gg,0,none⟩) ((solo l).length+1) cap1))
     have hlf6:=HA6.o.1.lft
     have hok6:=HA6.o.1.okn
     have HN:Hid (TRel E b q {flat0 with kind:=13,name:=n,names:=L} (.slice An L.length cn) w4 R sr (w5.setCell ⟨q,32,none⟩ (.slice (some ⟨gg,0,none⟩) ((solo l).length+1) cap1))):=by
      refine ⟨l++ [x],sx,f,_,_,HI6.o,by rw [kx0];exact HS6.o,HA6.o,fun he=>by have:=hpr.2 he;omega,?_,by rw [←HX.o];simp⟩
      rw [kx0,List.length_append]
      simp only [List.length_cons,List.length_nil]
      by_cases he:sx.err=0
      ·rw [if_pos he];have:=hpr.2 he;omega
      ·rw [if_neg he];have:=hpr.1;omega
     have HM:Hid (2*lft E b (w5.setCell ⟨q,32,none⟩ (.slice (some ⟨gg,0,none⟩) ((solo l).length+1) cap1))+okn b (w5.setCell ⟨q,32,none⟩ (.slice (some ⟨gg,0,none⟩) ((solo l).length+1) cap1))<2*lft E b w7+okn b w7):=by
      show _<_
      rw [hlf6,hok6,HLF.o,HOK.o]
      show 2*sx.rest.length+(if sx.err=0 then 1 else 0)<_
      by_cases he:sx.err=0
      ·rw [if_pos he];have:=hpr.2 he;omega
      ·rw [if_neg he];have:=hpr.1;omega
     clear hil hif HI6 HS6 HA6 hlf6 hok6 HI5 HS5 HA5 e0 e1 j32 j32a k32 HAd HId HRd HMd HA2 HI2 HF2 HFR2 HR2
     go_wp2_with fail
     go_roundw
     case rel=>exact HN.o
     case measure=>exact HM.o
  ·rw [kq0 f s' he] at hX
   have hex:(expect [[125]] s').2=sr:=by rw [expect_bad he];injection hX
   have hRl:l=R:=by have:=congrArg Prod.fst hX;simpa using this
   subst hRl
   have HEX:=hdd hex;have HE:=hdd he
   clear hex hX he hlf hok hf hb
   go_wp2_with fail
   refine (ok_no E b s' _ HA.o.1 HE.o).mono ?_
   rintro e w7 ⟨rfl,rfl⟩
   go_wp2_with fail
   refine (expect1 E b s' [125] _ _ (by simp) HA.o.1).mono ?_
   rw [HEX.o]
   rintro e w9 ⟨rfl,hA9⟩
   have HA9:=hdd (HA.o.trans hA9)
   have HI9:Hid (IB q {flat0 with kind:=13,name:=n,names:=L} nil nil (.slice An L.length cn) (.slice A5 (solo l).length cap5) w9):=hA9.2.blk HI.o (by omega)
   have HRS9:=hdd (HRS.o.fr hA9.2 (fun k hk _ e=>by omega))
   have HAW:=hdd (HA0.o.ptr HA9.o (by omega))
   have HR9:Hid (I0 W w9):=HA9.o.2.blk HR0.o (by omega)
   have HN9:=hdd (jx5 HN0.o HA9.o.2 (fun k hk _ e=>by omega))
   clear hA9 HA HI HRS
   obtain ⟨w99,hw99,hA99,hl99,ho99⟩:=item_end HR9.o HAW.o hbl {flat0 with kind:=13,name:=n,names:=L} nil nil (.slice An L.length cn) (.slice A5 (solo l).length cap5)
   have R99:=hdd (own_base (ho99 _ _ _ _ _ _ (by omega) HN9.o) (by omega:W.heap.size≤_))
   have RI99:Hid (RowI W.heap.size l (.slice A5 (solo l).length cap5) w99):=HRS9.o.inner.carry fun e z v n xs ho=>own_base (ho99 _ _ _ _ _ _ (by omega) ho) (by omega)
   have HW99:=hdd hw99;clear hw99
   have HA99:=hdd hA99;clear hA99
   have HL99:=hdd hl99;clear hl99 ho99
   go_wp2_with (first|(refine wpList_load_mid rfl 57 _ rfl q 0 rfl (icells {flat0 with kind:=13,name:=n,names:=L} nil nil (.slice An L.length cn) (.slice A5 (solo l).length cap5)) _ HI9.o.range Tryd.underlying57 rfl (jx6 _ _ _ _ _) ?_)|(refine wpList_store_mid rfl 57 _ _ rfl W.heap.size 0 (icells {flat0 with kind:=13,name:=n,names:=L} nil nil (.slice An L.length cn) (.slice A5 (solo l).length cap5)).toArray rfl rfl (HR9.o.there' _ _ _ _ _) (jq6 _ _ _ _ _) (ic1 ..) ?_;rw [HW99.o]))
   exact bodyPost_ret (v:= .agg (icells {flat0 with kind:=13,name:=n,names:=L} nil nil (.slice An L.length cn) (.slice A5 (solo l).length cap5)).toArray) (jq8 Tryd.results69 rfl HL99.o) rfl ⟨⟨nil,nil,_,_,rfl,⟨World.ownsRow_nil _ _ _ _,World.ownsRow_nil _ _ _ _,R99.o⟩,RI99.o⟩,HA99.o⟩
end Go.Proofs.YtfaflipphkoiiaaDoor.Pr
