/-
  What the parser's methods status, weekday and names return. Plain facts on the parser's steps: no step gives tokens back. Plain facts on the parser's steps: no step gives tokens back; an item consumes a token or fails. The loops of the parser do not depend on their number of rounds, if it exceeds the number of tokens. The parser's steps are built out of a few; what holds of these holds of all: they leave a part of the tokens, and change nothing after an error. What the parser's method names returns.
-/
import Derived.Test.YtfaflipphkoiiaaDoorParGenA
import Derived.Test.YtfaflipphkoiiaaDoorParPlain
import Derived.OwnWalk
set_option maxHeartbeats 64000000
set_option maxRecDepth 100000
set_option linter.unusedVariables false
namespace Go.Proofs.YtfaflipphkoiiaaDoor.Pr
open Go.RowKit Mem
open Lx (Tok)
def sts:List Bytes:= [[115,116,97,114,116,101,100],[100,111,110,101],[102,97,105,108,101,100],[118,111,105,100]]
theorem st0 (w:World):(Instr.index 121 (.agg #[.string ⟨#[115,116,97,114,116,101,100]⟩,.string ⟨#[100,111,110,101]⟩,.string ⟨#[102,97,105,108,101,100]⟩,.string ⟨#[118,111,105,100]⟩]) (.int .i64 0)).run Tryd.prog w= .ok (.string ⟨#[115,116,97,114,116,101,100]⟩) w:=by kernel_rfl
theorem st1 (w:World):(Instr.index 121 (.agg #[.string ⟨#[115,116,97,114,116,101,100]⟩,.string ⟨#[100,111,110,101]⟩,.string ⟨#[102,97,105,108,101,100]⟩,.string ⟨#[118,111,105,100]⟩]) (.int .i64 1)).run Tryd.prog w= .ok (.string ⟨#[100,111,110,101]⟩) w:=by kernel_rfl
theorem st2 (w:World):(Instr.index 121 (.agg #[.string ⟨#[115,116,97,114,116,101,100]⟩,.string ⟨#[100,111,110,101]⟩,.string ⟨#[102,97,105,108,101,100]⟩,.string ⟨#[118,111,105,100]⟩]) (.int .i64 2)).run Tryd.prog w= .ok (.string ⟨#[102,97,105,108,101,100]⟩) w:=by kernel_rfl
theorem st3 (w:World):(Instr.index 121 (.agg #[.string ⟨#[115,116,97,114,116,101,100]⟩,.string ⟨#[100,111,110,101]⟩,.string ⟨#[102,97,105,108,101,100]⟩,.string ⟨#[118,111,105,100]⟩]) (.int .i64 3)).run Tryd.prog w= .ok (.string ⟨#[118,111,105,100]⟩) w:=by kernel_rfl
theorem index_st (j:Nat) (hj:j<4) (w:World):(Instr.index 121 (.agg #[.string ⟨#[115,116,97,114,116,101,100]⟩,.string ⟨#[100,111,110,101]⟩,.string ⟨#[102,97,105,108,101,100]⟩,.string ⟨#[118,111,105,100]⟩]) (.int .i64 (j:Int))).run Tryd.prog w= .ok (.string ⟨(sts.getD j []).toArray⟩) w:=by
 have h:j=0∨j=1∨j=2∨j=3:=by omega
 rcases h with rfl|rfl|rfl|rfl
 ·exact st0 w
 ·exact st1 w
 ·exact st2 w
 ·exact st3 w
theorem wd0 (w:World):(Instr.index 120 (.agg #[.string ⟨#[109,111,110]⟩,.string ⟨#[116,117,101]⟩,.string ⟨#[119,101,100]⟩,.string ⟨#[116,104,117]⟩,.string ⟨#[102,114,105]⟩,.string ⟨#[115,97,116]⟩,.string ⟨#[115,117,110]⟩]) (.int .i64 0)).run Tryd.prog w= .ok (.string ⟨#[109,111,110]⟩) w:=by kernel_rfl
theorem wd1 (w:World):(Instr.index 120 (.agg #[.string ⟨#[109,111,110]⟩,.string ⟨#[116,117,101]⟩,.string ⟨#[119,101,100]⟩,.string ⟨#[116,104,117]⟩,.string ⟨#[102,114,105]⟩,.string ⟨#[115,97,116]⟩,.string ⟨#[115,117,110]⟩]) (.int .i64 1)).run Tryd.prog w= .ok (.string ⟨#[116,117,101]⟩) w:=by kernel_rfl
theorem wd2 (w:World):(Instr.index 120 (.agg #[.string ⟨#[109,111,110]⟩,.string ⟨#[116,117,101]⟩,.string ⟨#[119,101,100]⟩,.string ⟨#[116,104,117]⟩,.string ⟨#[102,114,105]⟩,.string ⟨#[115,97,116]⟩,.string ⟨#[115,117,110]⟩]) (.int .i64 2)).run Tryd.prog w= .ok (.string ⟨#[119,101,100]⟩) w:=by kernel_rfl
theorem wd3 (w:World):(Instr.index 120 (.agg #[.string ⟨#[109,111,110]⟩,.string ⟨#[116,117,101]⟩,.string ⟨#[119,101,100]⟩,.string ⟨#[116,104,117]⟩,.string ⟨#[102,114,105]⟩,.string ⟨#[115,97,116]⟩,.string ⟨#[115,117,110]⟩]) (.int .i64 3)).run Tryd.prog w= .ok (.string ⟨#[116,104,117]⟩) w:=by kernel_rfl
theorem wd4 (w:World):(Instr.index 120 (.agg #[.string ⟨#[109,111,110]⟩,.string ⟨#[116,117,101]⟩,.string ⟨#[119,101,100]⟩,.string ⟨#[116,104,117]⟩,.string ⟨#[102,114,105]⟩,.string ⟨#[115,97,116]⟩,.string ⟨#[115,117,110]⟩]) (.int .i64 4)).run Tryd.prog w= .ok (.string ⟨#[102,114,105]⟩) w:=by kernel_rfl
theorem wd5 (w:World):(Instr.index 120 (.agg #[.string ⟨#[109,111,110]⟩,.string ⟨#[116,117,101]⟩,.string ⟨#[119,101,100]⟩,.string ⟨#[116,104,117]⟩,.string ⟨#[102,114,105]⟩,.string ⟨#[115,97,116]⟩,.string ⟨#[115,117,110]⟩]) (.int .i64 5)).run Tryd.prog w= .ok (.string ⟨#[115,97,116]⟩) w:=by kernel_rfl
theorem wd6 (w:World):(Instr.index 120 (.agg #[.string ⟨#[109,111,110]⟩,.string ⟨#[116,117,101]⟩,.string ⟨#[119,101,100]⟩,.string ⟨#[116,104,117]⟩,.string ⟨#[102,114,105]⟩,.string ⟨#[115,97,116]⟩,.string ⟨#[115,117,110]⟩]) (.int .i64 6)).run Tryd.prog w= .ok (.string ⟨#[115,117,110]⟩) w:=by kernel_rfl
theorem index_wd (j:Nat) (hj:j<7) (w:World):(Instr.index 120 (.agg #[.string ⟨#[109,111,110]⟩,.string ⟨#[116,117,101]⟩,.string ⟨#[119,101,100]⟩,.string ⟨#[116,104,117]⟩,.string ⟨#[102,114,105]⟩,.string ⟨#[115,97,116]⟩,.string ⟨#[115,117,110]⟩]) (.int .i64 (j:Int))).run Tryd.prog w= .ok (.string ⟨(wdays.getD j []).toArray⟩) w:=by
 have h:j=0∨j=1∨j=2∨j=3∨j=4∨j=5∨j=6:=by omega
 rcases h with rfl|rfl|rfl|rfl|rfl|rfl|rfl
 ·exact wd0 w
 ·exact wd1 w
 ·exact wd2 w
 ·exact wd3 w
 ·exact wd4 w
 ·exact wd5 w
 ·exact wd6 w
theorem anyOf_cons (x:Bytes) (r:List Bytes) (i:Nat) (s:St):anyOf (x::r) i s=if (acc x s).1 then (i,(acc x s).2) else anyOf r (i+1) (acc x s).2:=by
 show bnd (acc x) (fun b=>if b then ret i else anyOf r (i+1)) s=_
 unfold bnd
 cases (acc x s).1<;>rfl
theorem drop_getD (l:List Bytes) (j:Nat) (h:j<l.length):l.drop j=l.getD j []::l.drop (j+1):=by
 rw [List.drop_eq_getElem_cons h]
 simp [List.getD,List.getElem?_eq_getElem h]
theorem status_any (E:Env) (b:Nat) (s:St) (W:World) (h:PW E b s W):
  Calls Tryd.prog 108 #[.pointer (some ⟨b,0,none⟩)] W fun e w'=>e= .returned (.int .i64 ((status s).1:Int))∧After E b (status s).2 W w':=by
 have HP:=hdd h;clear h
 obtain ⟨r,sr,hR⟩: ∃r sr,anyOf sts 1 s=(r,sr):=⟨_,_,rfl⟩
 have e:status s=(r,sr):=hR
 rw [e]
 have HR:=hdd hR;clear hR e
 go_enter Tryd.func108,Tryd.ntmps108
 go_wp2_with fail
 go_loopw [6] (fun i wr=> ∃(j:Nat) (s':St),i= .int .i64 j∧j≤4∧Hid (anyOf (sts.drop j) (1+j) s'=(r,sr))∧Hid (After E b s' W wr)) (fun i _=>4-(intOf i).toNat)
 case atStart=>exact ⟨0,s,rfl,by omega,HR,After.start HP.o⟩
 case round=>
  obtain ⟨j,s',rfl,hj,HX,HA⟩:=hrel
  by_cases hlt:j<4
  ·have hix:=index_st j hlt
   have hx:=HX.o
   rw [drop_getD sts j hlt,anyOf_cons] at hx
   have HX2:=hdd hx;clear hx
   generalize sts.getD j []=x at*
   cases ha:(acc x s').1 with
   |true=>
    have HX3:Hid ((1+j,(acc x s').2)=(r,sr)):=by have:=HX2.o;rw [ha] at this;exact this
    have HAA:=hdd ha;clear ha
    go_wp2_with fail
    refine (jx0 E b s' x _ HA.o.1).mono ?_
    rw [HAA.o]
    rintro e w1 ⟨rfl,hA1⟩
    have HA1:=hdd (HA.o.trans hA1);clear hA1
    go_wp2_with fail
    go_ret
    have h3:=HX3.o
    injection h3 with h3 h4
    rw [h4] at HA1
    exact ⟨ret_int (by omega),HA1.o⟩
   |false=>
    have HX3:Hid (anyOf (sts.drop (j+1)) (1+(j+1)) (acc x s').2=(r,sr)):=by have:=HX2.o;rw [ha] at this;exact this
    have HAA:=hdd ha;clear ha
    go_wp2_with fail
    refine (jx0 E b s' x _ HA.o.1).mono ?_
    rw [HAA.o]
    rintro e w1 ⟨rfl,hA1⟩
    have HA1:=hdd (HA.o.trans hA1);clear hA1
    go_wp2_with fail
    go_roundw
    case rel=>exact ⟨j+1,_,by go_num,by omega,HX3,HA1⟩
    case measure=>simp [intOf];omega
  ·have hx:=HX.o
   rw [List.drop_eq_nil_of_le (by show 4≤j;omega)] at hx
   have HX3:Hid ((0,(fail s').2)=(r,sr)):=hx
   clear hx
   go_wp2_with fail
   refine (fail_any E b s' _ HA.o.1).mono ?_
   rintro e w1 ⟨rfl,hA1⟩
   have HA1:=hdd (HA.o.trans hA1);clear hA1
   go_wp2_with fail
   go_ret
   have h3:=HX3.o
   injection h3 with h3 h4
   rw [h4] at HA1
   exact ⟨ret_int (by omega),HA1.o⟩
theorem weekday_any (E:Env) (b:Nat) (s:St) (W:World) (h:PW E b s W):
  Calls Tryd.prog 94 #[.pointer (some ⟨b,0,none⟩)] W fun e w'=>e= .returned (.int .i64 ((weekday s).1:Int))∧After E b (weekday s).2 W w':=by
 have hwk:=h.2.2.2.1.1.2
 have c0:W.cell? ⟨0,0,none⟩=some (.string ⟨#[109,111,110]⟩):=hwk 0 _ rfl
 have c1:W.cell? ⟨0,1,none⟩=some (.string ⟨#[116,117,101]⟩):=hwk 1 _ rfl
 have c2:W.cell? ⟨0,2,none⟩=some (.string ⟨#[119,101,100]⟩):=hwk 2 _ rfl
 have c3:W.cell? ⟨0,3,none⟩=some (.string ⟨#[116,104,117]⟩):=hwk 3 _ rfl
 have c4:W.cell? ⟨0,4,none⟩=some (.string ⟨#[102,114,105]⟩):=hwk 4 _ rfl
 have c5:W.cell? ⟨0,5,none⟩=some (.string ⟨#[115,97,116]⟩):=hwk 5 _ rfl
 have c6:W.cell? ⟨0,6,none⟩=some (.string ⟨#[115,117,110]⟩):=hwk 6 _ rfl
 have HP:=hdd h;clear h hwk
 obtain ⟨r,sr,hR⟩: ∃r sr,anyOf wdays 0 s=(r,sr):=⟨_,_,rfl⟩
 have e:weekday s=(r,sr):=hR
 rw [e]
 have HR:=hdd hR;clear hR e
 go_enter Tryd.func94,Tryd.ntmps94
 go_wp2_with fail
 go_loopw [6] (fun i wr=> ∃(j:Nat) (s':St),i= .int .i64 j∧j≤7∧Hid (anyOf (wdays.drop j) j s'=(r,sr))∧Hid (After E b s' W wr)) (fun i _=>7-(intOf i).toNat)
 case atStart=>exact ⟨0,s,rfl,by omega,HR,After.start HP.o⟩
 case round=>
  obtain ⟨j,s',rfl,hj,HX,HA⟩:=hrel
  by_cases hlt:j<7
  ·have hix:=index_wd j hlt
   have hx:=HX.o
   rw [drop_getD wdays j hlt,anyOf_cons] at hx
   have HX2:=hdd hx;clear hx
   generalize wdays.getD j []=x at*
   cases ha:(acc x s').1 with
   |true=>
    have HX3:Hid ((j,(acc x s').2)=(r,sr)):=by have:=HX2.o;rw [ha] at this;exact this
    have HAA:=hdd ha;clear ha
    go_wp2_with fail
    refine (jx0 E b s' x _ HA.o.1).mono ?_
    rw [HAA.o]
    rintro e w1 ⟨rfl,hA1⟩
    have HA1:=hdd (HA.o.trans hA1);clear hA1
    go_wp2_with fail
    go_ret
    have h3:=HX3.o
    injection h3 with h3 h4
    rw [h4] at HA1
    exact ⟨ret_int (by omega),HA1.o⟩
   |false=>
    have HX3:Hid (anyOf (wdays.drop (j+1)) (j+1) (acc x s').2=(r,sr)):=by have:=HX2.o;rw [ha] at this;exact this
    have HAA:=hdd ha;clear ha
    go_wp2_with fail
    refine (jx0 E b s' x _ HA.o.1).mono ?_
    rw [HAA.o]
    rintro e w1 ⟨rfl,hA1⟩
    have HA1:=hdd (HA.o.trans hA1);clear hA1
    go_wp2_with fail
    go_roundw
    case rel=>exact ⟨j+1,_,by go_num,by omega,HX3,HA1⟩
    case measure=>simp [intOf];omega
  ·have hx:=HX.o
   rw [List.drop_eq_nil_of_le (by show 7≤j;omega)] at hx
   have HX3:Hid ((0,(fail s').2)=(r,sr)):=hx
   clear hx
   go_wp2_with fail
   refine (fail_any E b s' _ HA.o.1).mono ?_
   rintro e w1 ⟨rfl,hA1⟩
   have HA1:=hdd (HA.o.trans hA1);clear hA1
   go_wp2_with fail
   go_ret
   have h3:=HX3.o
   injection h3 with h3 h4
   rw [h4] at HA1
   exact ⟨ret_int (by omega),HA1.o⟩
end Go.Proofs.YtfaflipphkoiiaaDoor.Pr
namespace Go.Proofs.YtfaflipphkoiiaaDoor.Pr
open Lx (Tok)
def Mono {α:Type} (m:M α):Prop:= ∀s,(m s).2.rest.length≤s.rest.length
theorem Mono.ret {α:Type} (a:α):Mono (ret a):=fun s=>Nat.le_refl _
theorem Mono.bnd {α β:Type} {m:M α} {f:α→M β} (h:Mono m) (hf: ∀a,Mono (f a)):Mono (bnd m f):=fun s=>Nat.le_trans (hf _ _) (h s)
theorem Mono.seq {α β:Type} {m:M α} {f:M β} (h:Mono m) (hf:Mono f):Mono (seq m f):=Mono.bnd h fun _=>hf
theorem fail_rest (s:St):(fail s).2.rest=s.rest:=by unfold fail;simp only;split<;>rfl
theorem Mono.fail:Mono fail:=fun s=>by rw [fail_rest];exact Nat.le_refl _
theorem Mono.acc (x:Bytes):Mono (acc x):=by
 intro s
 unfold Pr.acc
 split<;>simp
theorem Mono.opt (k:Nat):Mono (opt k):=by
 intro s
 unfold Pr.opt
 split<;>simp
theorem Mono.take (k:Nat):Mono (take k):=Mono.bnd (Mono.opt k) fun o=>by
 cases o with
 |none=>exact Mono.seq Mono.fail (Mono.ret _)
 |some t=>exact Mono.ret _
theorem Mono.name:Mono name:=Mono.bnd (Mono.take 1) fun _=>Mono.ret _
theorem Mono.number:Mono number:=Mono.bnd (Mono.take 2) fun _=>Mono.ret _
theorem Mono.expect (l:List Bytes):Mono (expect l):=by
 induction l with
 |nil=>exact Mono.ret _
 |cons x r ih=>exact Mono.bnd (Mono.acc x) fun b=>by cases b<;>first|exact ih|exact Mono.fail
theorem Mono.anyOf (l:List Bytes): ∀i,Mono (anyOf l i):=by
 induction l with
 |nil=>intro i;exact Mono.seq Mono.fail (Mono.ret _)
 |cons x r ih=>intro i;exact Mono.bnd (Mono.acc x) fun b=>by cases b<;>first|exact ih _|exact Mono.ret _
theorem Mono.date:Mono date:=Mono.bnd Mono.number fun _=>Mono.seq (Mono.expect _) (Mono.bnd Mono.number fun _=>Mono.seq (Mono.expect _) (Mono.bnd Mono.number fun _=>Mono.ret _))
theorem Mono.named:Mono named:=Mono.bnd Mono.name fun _=>Mono.bnd (Mono.anyOf _ _) fun _=>Mono.ret _
theorem jk3 {x:Bytes} {s:St} (h:(acc x s).1=true):(acc x s).2.rest.length+1=s.rest.length∧s.err=0:=by
 unfold acc at h ⊢
 cases hi:isT x s with
 |false=>rw [hi] at h;simp at h
 |true=>
  simp only [if_true]
  unfold isT at hi
  cases hr:s.rest with
  |nil=>rw [hr] at hi;simp at hi
  |cons t r=>simp at hi;exact ⟨by simp,hi.1⟩
theorem jk6 (f:Nat) (s:St):namesMore (f+1) s=if (acc [44] s).1 then ((name (acc [44] s).2).1::(namesMore f (name (acc [44] s).2).2).1,(namesMore f (name (acc [44] s).2).2).2) else ([],(acc [44] s).2):=by
 show bnd (acc [44]) (fun b=>if b then bnd name fun x=>bnd (namesMore f) fun l=>ret (x::l) else ret []) s=_
 unfold bnd
 cases (acc [44] s).1<;>rfl
theorem jk7 (f:Nat) (s:St):datesMore (f+1) s=if (acc [44] (date s).2).1 then ((date s).1::(datesMore f (acc [44] (date s).2).2).1,(datesMore f (acc [44] (date s).2).2).2) else ([(date s).1],(acc [44] (date s).2).2):=by
 show bnd date (fun d=>bnd (acc [44]) fun b=>if b then bnd (datesMore f) fun l=>ret (d::l) else ret [d]) s=_
 unfold bnd
 dsimp only
 cases (acc [44] (date s).2).1<;>rfl
theorem jk8 (f:Nat) (s:St):condsMore (f+1) s=if (acc [97,110,100] (named s).2).1 then ((named s).1::(condsMore f (acc [97,110,100] (named s).2).2).1,(condsMore f (acc [97,110,100] (named s).2).2).2) else ([(named s).1],(acc [97,110,100] (named s).2).2):=by
 show bnd named (fun d=>bnd (acc [97,110,100]) fun b=>if b then bnd (condsMore f) fun l=>ret (d::l) else ret [d]) s=_
 unfold bnd
 dsimp only
 cases (acc [97,110,100] (named s).2).1<;>rfl
theorem jz9 (f:Nat) (l:List Bool) (s:St):weekendMore (f+1) l s=if (weekday s).2.err=0 then (if (acc [44] (weekday s).2).1 then weekendMore f (l.set (weekday s).1 true) (acc [44] (weekday s).2).2 else (l.set (weekday s).1 true,(expect [[59]] (acc [44] (weekday s).2).2).2)) else (l,(weekday s).2):=by
 show bnd weekday (fun d=>bnd good fun g=>if g then bnd (acc [44]) fun b=>if b then weekendMore f (l.set d true) else seq (expect [[59]]) (ret (l.set d true)) else ret l) s=_
 unfold bnd good
 by_cases h:(weekday s).2.err=0
 ·have h2:((weekday s).2.err==0)=true:=by simp [h]
  simp only [h2,if_true,if_pos h]
  show (bnd (acc [44]) fun b=>if b then weekendMore f (l.set (weekday s).1 true) else seq (expect [[59]]) (ret (l.set (weekday s).1 true))) (weekday s).2=_
  unfold bnd
  cases (acc [44] (weekday s).2).1<;>rfl
 ·have h2:((weekday s).2.err==0)=false:=by simp [h]
  simp only [h2,if_neg h]
  rfl
end Go.Proofs.YtfaflipphkoiiaaDoor.Pr
namespace Go.Proofs.YtfaflipphkoiiaaDoor.Pr
open Lx (Tok)
theorem Mono.ite {α:Type} {c:Prop} [Decidable c] {a b:M α} (ha:Mono a) (hb:Mono b):Mono (if c then a else b):=by split<;>assumption
theorem Mono.good:Mono good:=fun s=>Nat.le_refl _
theorem Mono.long {α:Type} {m:Nat→M α} (h: ∀n,Mono (m n)):Mono (long m):=fun s=>h _ s
theorem Mono.ratio:Mono ratio:=Mono.bnd Mono.number fun _=>Mono.bnd (Mono.acc _) fun _=>Mono.ite (Mono.bnd Mono.number fun _=>Mono.ret _) (Mono.ret _)
theorem Mono.days:Mono days:=Mono.bnd Mono.number fun _=>Mono.bnd (Mono.acc _) fun _=>Mono.seq (Mono.expect _) (Mono.ret _)
theorem Mono.span:Mono span:=Mono.bnd (Mono.opt 1) fun o=>by
 cases o
 ·exact Mono.days
 ·exact Mono.ret _
theorem Mono.namesMore (n:Nat):Mono (namesMore n):=by
 induction n with
 |zero=>exact Mono.ret _
 |succ n ih=>exact Mono.bnd (Mono.acc _) fun _=>Mono.ite (Mono.bnd Mono.name fun _=>Mono.bnd ih fun _=>Mono.ret _) (Mono.ret _)
theorem Mono.namesEnd (l:List Bytes):Mono (namesEnd l):=Mono.seq (Mono.expect _) (Mono.ret _)
theorem Mono.names:Mono names:=Mono.seq (Mono.expect _) (Mono.bnd (Mono.opt 1) fun o=>by
 cases o
 ·exact Mono.namesEnd _
 ·exact Mono.bnd (Mono.long Mono.namesMore) fun _=>Mono.namesEnd _)
theorem Mono.weekday:Mono weekday:=Mono.anyOf _ _
theorem Mono.weekendMore (n:Nat): ∀l,Mono (weekendMore n l):=by
 induction n with
 |zero=>exact fun l=>Mono.ret _
 |succ n ih=>exact fun l=>Mono.bnd Mono.weekday fun _=>Mono.bnd Mono.good fun _=>Mono.ite (Mono.bnd (Mono.acc _) fun _=>Mono.ite (ih _) (Mono.seq (Mono.expect _) (Mono.ret _))) (Mono.ret _)
theorem Mono.datesMore (n:Nat):Mono (datesMore n):=by
 induction n with
 |zero=>exact Mono.ret _
 |succ n ih=>exact Mono.bnd Mono.date fun _=>Mono.bnd (Mono.acc _) fun _=>Mono.ite (Mono.bnd ih fun _=>Mono.ret _) (Mono.ret _)
theorem Mono.condsMore (n:Nat):Mono (condsMore n):=by
 induction n with
 |zero=>exact Mono.ret _
 |succ n ih=>exact Mono.bnd Mono.named fun _=>Mono.bnd (Mono.acc _) fun _=>Mono.ite (Mono.bnd ih fun _=>Mono.ret _) (Mono.ret _)
theorem Mono.bearer:Mono bearer:=Mono.seq (Mono.expect _) (Mono.bnd Mono.name fun _=>Mono.seq (Mono.expect _) (Mono.bnd Mono.name fun _=>Mono.ret _))
theorem Mono.circEnd (l:List Named):Mono (circEnd l):=Mono.bnd (Mono.acc _) fun _=>Mono.ite (Mono.seq (Mono.expect _) (Mono.bnd Mono.name fun _=>Mono.seq (Mono.expect _) (Mono.bnd Mono.name fun _=>Mono.ret _))) (Mono.ret _)
theorem Mono.circ:Mono circ:=Mono.bnd (Mono.acc _) fun _=>Mono.ite (Mono.bnd (Mono.long Mono.condsMore) fun _=>Mono.circEnd _) (Mono.circEnd _)
theorem Mono.consEnd (q:Price):Mono (consEnd q):=Mono.bnd (Mono.acc _) fun _=>Mono.ret _
theorem Mono.priceEnd (r:Ratio) (u c:Bytes):Mono (priceEnd r u c):=Mono.seq (Mono.expect _) (Mono.bnd Mono.name fun _=>Mono.consEnd _)
theorem Mono.cons:Mono cons:=Mono.bnd (Mono.acc _) fun _=>Mono.ite (Mono.bnd (Mono.opt 1) fun o=>by
 cases o
 ·exact Mono.bnd Mono.ratio fun _=>Mono.bnd Mono.name fun _=>Mono.priceEnd _ _ _
 ·exact Mono.priceEnd _ _ _) (Mono.consEnd _)
theorem Mono.party:Mono party:=Mono.bnd Mono.name fun _=>Mono.seq (Mono.expect _) (Mono.ret _)
theorem Mono.role:Mono role:=Mono.bnd Mono.name fun _=>Mono.seq (Mono.expect _) (Mono.bnd Mono.name fun _=>Mono.seq (Mono.expect _) (Mono.ret _))
theorem Mono.unitEnd (n:Bytes) (wd:Nat) (r:Ratio) (u:Bytes):Mono (unitEnd n wd r u):=Mono.seq (Mono.expect _) (Mono.ret _)
theorem Mono.unitTail (n:Bytes) (wd:Nat):Mono (unitTail n wd):=Mono.bnd (Mono.acc _) fun _=>Mono.ite (Mono.bnd Mono.ratio fun _=>Mono.bnd Mono.name fun _=>Mono.unitEnd _ _ _ _) (Mono.unitEnd _ _ _ _)
theorem Mono.unit:Mono unit:=Mono.bnd Mono.name fun _=>Mono.bnd (Mono.acc _) fun _=>Mono.ite (Mono.unitTail _ _) (Mono.seq (Mono.expect _) (Mono.unitTail _ _))
theorem Mono.weekend:Mono weekend:=Mono.bnd (Mono.long fun n=>Mono.weekendMore n _) fun _=>Mono.ret _
theorem Mono.holiday:Mono holiday:=Mono.bnd (Mono.long Mono.datesMore) fun _=>Mono.seq (Mono.expect _) (Mono.ret _)
theorem Mono.spanDef:Mono spanDef:=Mono.bnd Mono.name fun _=>Mono.seq (Mono.expect _) (Mono.bnd Mono.days fun _=>Mono.seq (Mono.expect _) (Mono.ret _))
theorem Mono.sumDef:Mono sumDef:=Mono.bnd Mono.name fun _=>Mono.seq (Mono.expect _) (Mono.bnd Mono.ratio fun _=>Mono.bnd Mono.name fun _=>Mono.seq (Mono.expect _) (Mono.ret _))
theorem Mono.actGive (n o:Bytes) (wd:Nat):Mono (actGive n o wd):=Mono.bnd Mono.name fun _=>Mono.seq (Mono.expect _) (Mono.bnd Mono.name fun _=>Mono.seq (Mono.expect _) (Mono.ret _))
theorem Mono.actEnd (n o:Bytes) (r:Ratio) (u x:Bytes):Mono (actEnd n o r u x):=Mono.seq (Mono.expect _) (Mono.ret _)
theorem Mono.actTo (n o:Bytes) (r:Ratio) (u:Bytes):Mono (actTo n o r u):=Mono.bnd (Mono.acc _) fun _=>Mono.ite (Mono.bnd Mono.name fun _=>Mono.actEnd _ _ _ _ _) (Mono.actEnd _ _ _ _ _)
theorem Mono.act:Mono act:=Mono.bnd Mono.name fun _=>Mono.seq (Mono.expect _) (Mono.bnd Mono.name fun _=>Mono.bnd (Mono.acc _) fun _=>Mono.ite (Mono.actGive _ _ _) (Mono.bnd (Mono.acc _) fun _=>Mono.ite (Mono.actGive _ _ _)
 (Mono.bnd (Mono.acc _) fun _=>Mono.ite (Mono.bnd Mono.ratio fun _=>Mono.bnd Mono.name fun _=>Mono.actTo _ _ _ _) (Mono.actTo _ _ _ _))))
theorem Mono.dutyEnd (n:Bytes) (oa:Bytes×Bytes) (t:Nat) (w g:Span):Mono (dutyEnd n oa t w g):=Mono.bnd Mono.circ fun _=>Mono.bnd Mono.cons fun _=>Mono.seq (Mono.expect _) (Mono.ret _)
theorem Mono.dutyTail (n:Bytes) (oa:Bytes×Bytes) (t:Nat):Mono (dutyTail n oa t):=Mono.seq (Mono.expect _) (Mono.bnd Mono.span fun _=>Mono.bnd (Mono.acc _) fun _=>Mono.ite (Mono.bnd Mono.span fun _=>Mono.dutyEnd _ _ _ _ _) (Mono.dutyEnd _ _ _ _ _))
theorem Mono.duty:Mono duty:=Mono.bnd Mono.name fun _=>Mono.bnd Mono.bearer fun _=>Mono.bnd (Mono.opt 2) fun o=>by
 cases o
 ·exact Mono.dutyTail _ _ _
 ·exact Mono.seq (Mono.expect _) (Mono.dutyTail _ _ _)
theorem Mono.ban:Mono ban:=Mono.bnd Mono.name fun _=>Mono.bnd Mono.bearer fun _=>Mono.seq (Mono.expect _) (Mono.bnd Mono.span fun _=>Mono.bnd Mono.circ fun _=>Mono.bnd Mono.cons fun _=>Mono.seq (Mono.expect _) (Mono.ret _))
theorem Mono.option:Mono option:=Mono.bnd Mono.name fun _=>Mono.bnd Mono.bearer fun _=>Mono.seq (Mono.expect _) (Mono.bnd Mono.span fun _=>Mono.bnd Mono.circ fun _=>Mono.seq (Mono.expect _) (Mono.ret _))
theorem Mono.watch:Mono watch:=Mono.bnd Mono.name fun _=>Mono.seq (Mono.expect _) (Mono.bnd Mono.name fun _=>Mono.seq (Mono.expect _) (Mono.bnd Mono.span fun _=>Mono.bnd Mono.circ fun _=>Mono.seq (Mono.expect _) (Mono.ret _)))
theorem Mono.incl:Mono incl:=Mono.bnd Mono.name fun _=>Mono.seq (Mono.expect _) (Mono.bnd Mono.name fun _=>Mono.bnd Mono.names fun _=>Mono.seq (Mono.expect _) (Mono.ret _))
theorem Mono.body (k:Nat):Mono (body k):=by
 unfold Pr.body
 split
 ·exact Mono.party
 ·exact Mono.role
 ·exact Mono.unit
 ·exact Mono.weekend
 ·exact Mono.holiday
 ·exact Mono.spanDef
 ·exact Mono.sumDef
 ·exact Mono.act
 ·exact Mono.duty
 ·exact Mono.ban
 ·exact Mono.option
 ·exact Mono.watch
 ·exact Mono.incl
theorem start_some {ws:List (Bytes×Nat)} {s:St} {kp:Nat×Nat} (h:(start ws s).1=some kp):(start ws s).2.rest.length+1=s.rest.length∧s.err=0:=by
 unfold start at h ⊢
 cases hk:isK 1 s with
 |false=>rw [hk] at h;simp at h
 |true=>
  rw [hk] at h
  simp only [if_true] at h ⊢
  have he:s.err=0:=by simp [isK] at hk;exact hk.1
  cases hr:s.rest with
  |nil=>rw [hr] at h;simp at h
  |cons t r=>
   rw [hr] at h
   simp only at h ⊢
   cases hl:ws.lookup t.text with
   |none=>rw [hl] at h;simp at h
   |some k=>
    rw [hl] at h
    simp only at h ⊢
    by_cases h6:s.items=600
    ·rw [if_pos h6] at h;simp at h
    ·rw [if_neg h6];exact ⟨by simp,he⟩
theorem fail_err (s:St):(fail s).2.err≠0:=by
 unfold fail
 simp only
 split
 ·assumption
 ·split<;>simp
theorem start_none {ws:List (Bytes×Nat)} {s:St} (h:(start ws s).1=none):(start ws s).2.err≠0∧(start ws s).2.rest=s.rest:=by
 unfold start at h ⊢
 cases hk:isK 1 s with
 |false=>simp only [Bool.false_eq_true,if_false];exact ⟨fail_err s,fail_rest s⟩
 |true=>
  rw [hk] at h
  simp only [if_true] at h ⊢
  cases hr:s.rest with
  |nil=>simp [isK,hr] at hk
  |cons t r=>
   rw [hr] at h
   simp only at h ⊢
   cases hl:ws.lookup t.text with
   |none=>simp only;exact ⟨fail_err s,(fail_rest s).trans hr⟩
   |some k=>
    rw [hl] at h
    simp only at h ⊢
    by_cases h6:s.items=600
    ·rw [if_pos h6];exact ⟨by simp,rfl⟩
    ·rw [if_neg h6] at h;simp at h
theorem Mono.start (ws:List (Bytes×Nat)):Mono (start ws):=by
 intro s
 cases h:(Pr.start ws s).1 with
 |none=>rw [(start_none h).2];exact Nat.le_refl _
 |some kp=>have:=(start_some h).1;omega
theorem inner_prog (s:St):(inner s).2.rest.length≤s.rest.length∧((inner s).2.err=0→(inner s).2.rest.length<s.rest.length):=by
 unfold inner bnd
 cases h:(start innerWords s).1 with
 |none=>
  have h2:=start_none h
  exact ⟨by show (start innerWords s).2.rest.length≤_;rw [h2.2];exact Nat.le_refl _,fun he=>absurd he h2.1⟩
 |some kp=>
  have h2:=start_some h
  have h3:=Mono.body kp.1 (start innerWords s).2
  refine ⟨?_,fun _=>?_⟩
  ·show (body kp.1 (start innerWords s).2).2.rest.length≤_;omega
  ·show (body kp.1 (start innerWords s).2).2.rest.length<_;omega
theorem Mono.inner:Mono inner:=fun s=>(inner_prog s).1
theorem Mono.tmplMore (n:Nat):Mono (tmplMore n):=by
 induction n with
 |zero=>exact Mono.ret _
 |succ n ih=>exact Mono.bnd Mono.good fun _=>Mono.ite (Mono.bnd (Mono.acc _) fun _=>Mono.ite (Mono.ret _) (Mono.bnd Mono.inner fun _=>Mono.bnd ih fun _=>Mono.ret _)) (Mono.ret _)
theorem Mono.template:Mono template:=Mono.bnd Mono.name fun _=>Mono.bnd Mono.names fun _=>Mono.seq (Mono.expect _) (Mono.bnd (Mono.long Mono.tmplMore) fun _=>Mono.ret _)
theorem item_prog (s:St):(item s).2.rest.length≤s.rest.length∧((item s).2.err=0→(item s).2.rest.length<s.rest.length):=by
 unfold item bnd
 cases h:(start allWords s).1 with
 |none=>
  have h2:=start_none h
  exact ⟨by show (start allWords s).2.rest.length≤_;rw [h2.2];exact Nat.le_refl _,fun he=>absurd he h2.1⟩
 |some kp=>
  have h2:=start_some h
  by_cases h13:kp.1=13
  ·have h3:=Mono.template (start allWords s).2
   simp only [if_pos h13]
   refine ⟨?_,fun _=>?_⟩
   ·show (template (start allWords s).2).2.rest.length≤_;omega
   ·show (template (start allWords s).2).2.rest.length<_;omega
  ·have h3:=Mono.body kp.1 (start allWords s).2
   simp only [if_neg h13]
   refine ⟨?_,fun _=>?_⟩
   ·show (body kp.1 (start allWords s).2).2.rest.length≤_;omega
   ·show (body kp.1 (start allWords s).2).2.rest.length<_;omega
theorem kq0 (f:Nat) (s:St) (h:s.err≠0):tmplMore f s=([],s):=by
 cases f with
 |zero=>rfl
 |succ f=>simp [tmplMore,bnd,good,h,ret]
theorem kz0 (f:Nat) (s:St) (h:s.err=0):tmplMore (f+1) s=if (acc [125] s).1 then ([],(acc [125] s).2) else ((inner (acc [125] s).2).1::(tmplMore f (inner (acc [125] s).2).2).1,(tmplMore f (inner (acc [125] s).2).2).2):=by
 have hb:(s.err==0)=true:=by simp [h]
 show bnd good (fun g=>if g then bnd (acc [125]) fun b=>if b then ret [] else bnd inner fun x=>bnd (tmplMore f) fun l=>ret (x::l) else ret []) s=_
 unfold bnd good
 simp only [hb,if_true]
 cases (acc [125] s).1<;>rfl
theorem kq3 (f:Nat) (s:St) (h:s.err≠0∨s.rest= []):itemsMore f s=([],s):=by
 cases f with
 |zero=>rfl
 |succ f=>
  have:(s.err==0&&!s.rest.isEmpty)=false:=by rcases h with h|h<;>simp [h]
  simp [itemsMore,bnd,more,this,ret]
theorem kx6 (f:Nat) (s:St) (h:s.err=0) (hr:s.rest≠ []):itemsMore (f+1) s=((item s).1::(itemsMore f (item s).2).1,(itemsMore f (item s).2).2):=by
 have hb:(s.err==0&&!s.rest.isEmpty)=true:=by cases hh:s.rest<;>simp_all
 show bnd more (fun g=>if g then bnd item fun x=>bnd (itemsMore f) fun l=>ret (x::l) else ret []) s=_
 unfold bnd more
 simp only [hb,if_true]
 rfl
end Go.Proofs.YtfaflipphkoiiaaDoor.Pr
namespace Go.Proofs.YtfaflipphkoiiaaDoor.Pr
open Lx (Tok)
def Fueled {α:Type} (m:Nat→M α):Prop:= ∀n n' s,s.rest.length<n→s.rest.length<n'→m n s=m n' s
theorem kq1:Fueled namesMore:=by
 intro n
 induction n with
 |zero=>intro n' s h;omega
 |succ n ih=>
  intro n' s h h'
  obtain ⟨k,rfl⟩: ∃k,n'=k+1:=⟨n'-1,by omega⟩
  rw [jk6,jk6]
  split
  ·rename_i hb
   have h1:=jk3 hb
   have h2:=Mono.name (acc [44] s).2
   rw [ih k _ (by omega) (by omega)]
  ·rfl
theorem dates_fueled:Fueled datesMore:=by
 intro n
 induction n with
 |zero=>intro n' s h;omega
 |succ n ih=>
  intro n' s h h'
  obtain ⟨k,rfl⟩: ∃k,n'=k+1:=⟨n'-1,by omega⟩
  rw [jk7,jk7]
  split
  ·rename_i hb
   have h1:=jk3 hb
   have h2:=Mono.date s
   rw [ih k _ (by omega) (by omega)]
  ·rfl
theorem conds_fueled:Fueled condsMore:=by
 intro n
 induction n with
 |zero=>intro n' s h;omega
 |succ n ih=>
  intro n' s h h'
  obtain ⟨k,rfl⟩: ∃k,n'=k+1:=⟨n'-1,by omega⟩
  rw [jk8,jk8]
  split
  ·rename_i hb
   have h1:=jk3 hb
   have h2:=Mono.named s
   rw [ih k _ (by omega) (by omega)]
  ·rfl
theorem weekend_fueled': ∀n n' l (s:St),s.rest.length<n→s.rest.length<n'→weekendMore n l s=weekendMore n' l s:=by
 intro n
 induction n with
 |zero=>intro n' l s h;omega
 |succ n ih=>
  intro n' l s h h'
  obtain ⟨k,rfl⟩: ∃k,n'=k+1:=⟨n'-1,by omega⟩
  rw [jz9,jz9]
  split
  ·split
   ·rename_i hb
    have h1:=jk3 hb
    have h2:=Mono.weekday s
    rw [ih k _ _ (by omega) (by omega)]
   ·rfl
  ·rfl
theorem weekend_fueled (l:List Bool):Fueled (fun n=>weekendMore n l):=fun n n' s h h'=>weekend_fueled' n n' l s h h'
theorem tmpl_fueled:Fueled tmplMore:=by
 intro n
 induction n with
 |zero=>intro n' s h;omega
 |succ n ih=>
  intro n' s h h'
  obtain ⟨k,rfl⟩: ∃k,n'=k+1:=⟨n'-1,by omega⟩
  by_cases he:s.err=0
  ·rw [kz0 _ _ he,kz0 _ _ he]
   split
   ·rfl
   ·have h1:=Mono.acc [125] s
    have h2:=inner_prog (acc [125] s).2
    by_cases he2:(inner (acc [125] s).2).2.err=0
    ·have h3:=h2.2 he2
     rw [ih k _ (by omega) (by omega)]
    ·rw [kq0 _ _ he2,kq0 _ _ he2]
  ·rw [kq0 _ _ he,kq0 _ _ he]
end Go.Proofs.YtfaflipphkoiiaaDoor.Pr
namespace Go.Proofs.YtfaflipphkoiiaaDoor.Pr
open Lx (Tok)
inductive Built: {α:Type}→M α→Prop
 |ret {α:Type} (a:α):Built (ret a)
 |bnd {α β:Type} {m:M α} {f:α→M β} (h:Built m) (hf: ∀a,Built (f a)):Built (bnd m f)
 |fail:Built fail
 |acc (x:Bytes):Built (acc x)
 |opt (k:Nat):Built (opt k)
 |good:Built good
 |long {α:Type} {m:Nat→M α} (hf:Fueled m) (h: ∀n,Built (m n)):Built (long m)
 |start (ws:List (Bytes×Nat)):Built (start ws)
theorem Built.seq {α β:Type} {m:M α} {f:M β} (h:Built m) (hf:Built f):Built (seq m f):=Built.bnd h fun _=>hf
theorem Built.take (k:Nat):Built (take k):=Built.bnd (Built.opt k) fun o=>by
 cases o with
 |none=>exact Built.seq Built.fail (Built.ret _)
 |some t=>exact Built.ret _
theorem Built.name:Built name:=Built.bnd (Built.take 1) fun _=>Built.ret _
theorem Built.number:Built number:=Built.bnd (Built.take 2) fun _=>Built.ret _
theorem Built.expect (l:List Bytes):Built (expect l):=by
 induction l with
 |nil=>exact Built.ret _
 |cons x r ih=>exact Built.bnd (Built.acc x) fun b=>by cases b<;>first|exact ih|exact Built.fail
theorem Built.anyOf (l:List Bytes): ∀i,Built (anyOf l i):=by
 induction l with
 |nil=>intro i;exact Built.seq Built.fail (Built.ret _)
 |cons x r ih=>intro i;exact Built.bnd (Built.acc x) fun b=>by cases b<;>first|exact ih _|exact Built.ret _
theorem Built.date:Built date:=Built.bnd Built.number fun _=>Built.seq (Built.expect _) (Built.bnd Built.number fun _=>Built.seq (Built.expect _) (Built.bnd Built.number fun _=>Built.ret _))
theorem Built.named:Built named:=Built.bnd Built.name fun _=>Built.bnd (Built.anyOf _ _) fun _=>Built.ret _
theorem Built.ite {α:Type} {c:Prop} [Decidable c] {a b:M α} (ha:Built a) (hb:Built b):Built (if c then a else b):=by split<;>assumption
theorem Built.ratio:Built ratio:=Built.bnd Built.number fun _=>Built.bnd (Built.acc _) fun _=>Built.ite (Built.bnd Built.number fun _=>Built.ret _) (Built.ret _)
theorem Built.days:Built days:=Built.bnd Built.number fun _=>Built.bnd (Built.acc _) fun _=>Built.seq (Built.expect _) (Built.ret _)
theorem Built.span:Built span:=Built.bnd (Built.opt 1) fun o=>by
 cases o
 ·exact Built.days
 ·exact Built.ret _
theorem Built.namesMore (n:Nat):Built (namesMore n):=by
 induction n with
 |zero=>exact Built.ret _
 |succ n ih=>exact Built.bnd (Built.acc _) fun _=>Built.ite (Built.bnd Built.name fun _=>Built.bnd ih fun _=>Built.ret _) (Built.ret _)
theorem Built.namesEnd (l:List Bytes):Built (namesEnd l):=Built.seq (Built.expect _) (Built.ret _)
theorem Built.names:Built names:=Built.seq (Built.expect _) (Built.bnd (Built.opt 1) fun o=>by
 cases o
 ·exact Built.namesEnd _
 ·exact Built.bnd (Built.long kq1 Built.namesMore) fun _=>Built.namesEnd _)
theorem Built.weekday:Built weekday:=Built.anyOf _ _
theorem Built.weekendMore (n:Nat): ∀l,Built (weekendMore n l):=by
 induction n with
 |zero=>exact fun l=>Built.ret _
 |succ n ih=>exact fun l=>Built.bnd Built.weekday fun _=>Built.bnd Built.good fun _=>Built.ite (Built.bnd (Built.acc _) fun _=>Built.ite (ih _) (Built.seq (Built.expect _) (Built.ret _))) (Built.ret _)
theorem Built.datesMore (n:Nat):Built (datesMore n):=by
 induction n with
 |zero=>exact Built.ret _
 |succ n ih=>exact Built.bnd Built.date fun _=>Built.bnd (Built.acc _) fun _=>Built.ite (Built.bnd ih fun _=>Built.ret _) (Built.ret _)
theorem Built.condsMore (n:Nat):Built (condsMore n):=by
 induction n with
 |zero=>exact Built.ret _
 |succ n ih=>exact Built.bnd Built.named fun _=>Built.bnd (Built.acc _) fun _=>Built.ite (Built.bnd ih fun _=>Built.ret _) (Built.ret _)
theorem Built.bearer:Built bearer:=Built.seq (Built.expect _) (Built.bnd Built.name fun _=>Built.seq (Built.expect _) (Built.bnd Built.name fun _=>Built.ret _))
theorem Built.circEnd (l:List Named):Built (circEnd l):=Built.bnd (Built.acc _) fun _=>Built.ite (Built.seq (Built.expect _) (Built.bnd Built.name fun _=>Built.seq (Built.expect _) (Built.bnd Built.name fun _=>Built.ret _))) (Built.ret _)
theorem Built.circ:Built circ:=Built.bnd (Built.acc _) fun _=>Built.ite (Built.bnd (Built.long conds_fueled Built.condsMore) fun _=>Built.circEnd _) (Built.circEnd _)
theorem Built.consEnd (q:Price):Built (consEnd q):=Built.bnd (Built.acc _) fun _=>Built.ret _
theorem Built.priceEnd (r:Ratio) (u c:Bytes):Built (priceEnd r u c):=Built.seq (Built.expect _) (Built.bnd Built.name fun _=>Built.consEnd _)
theorem Built.cons:Built cons:=Built.bnd (Built.acc _) fun _=>Built.ite (Built.bnd (Built.opt 1) fun o=>by
 cases o
 ·exact Built.bnd Built.ratio fun _=>Built.bnd Built.name fun _=>Built.priceEnd _ _ _
 ·exact Built.priceEnd _ _ _) (Built.consEnd _)
theorem Built.party:Built party:=Built.bnd Built.name fun _=>Built.seq (Built.expect _) (Built.ret _)
theorem Built.role:Built role:=Built.bnd Built.name fun _=>Built.seq (Built.expect _) (Built.bnd Built.name fun _=>Built.seq (Built.expect _) (Built.ret _))
theorem Built.unitEnd (n:Bytes) (wd:Nat) (r:Ratio) (u:Bytes):Built (unitEnd n wd r u):=Built.seq (Built.expect _) (Built.ret _)
theorem Built.unitTail (n:Bytes) (wd:Nat):Built (unitTail n wd):=Built.bnd (Built.acc _) fun _=>Built.ite (Built.bnd Built.ratio fun _=>Built.bnd Built.name fun _=>Built.unitEnd _ _ _ _) (Built.unitEnd _ _ _ _)
theorem Built.unit:Built unit:=Built.bnd Built.name fun _=>Built.bnd (Built.acc _) fun _=>Built.ite (Built.unitTail _ _) (Built.seq (Built.expect _) (Built.unitTail _ _))
theorem Built.weekend:Built weekend:=Built.bnd (Built.long (weekend_fueled _) fun n=>Built.weekendMore n _) fun _=>Built.ret _
theorem Built.holiday:Built holiday:=Built.bnd (Built.long dates_fueled Built.datesMore) fun _=>Built.seq (Built.expect _) (Built.ret _)
theorem Built.spanDef:Built spanDef:=Built.bnd Built.name fun _=>Built.seq (Built.expect _) (Built.bnd Built.days fun _=>Built.seq (Built.expect _) (Built.ret _))
theorem Built.sumDef:Built sumDef:=Built.bnd Built.name fun _=>Built.seq (Built.expect _) (Built.bnd Built.ratio fun _=>Built.bnd Built.name fun _=>Built.seq (Built.expect _) (Built.ret _))
theorem Built.actGive (n o:Bytes) (wd:Nat):Built (actGive n o wd):=Built.bnd Built.name fun _=>Built.seq (Built.expect _) (Built.bnd Built.name fun _=>Built.seq (Built.expect _) (Built.ret _))
theorem Built.actEnd (n o:Bytes) (r:Ratio) (u x:Bytes):Built (actEnd n o r u x):=Built.seq (Built.expect _) (Built.ret _)
theorem Built.actTo (n o:Bytes) (r:Ratio) (u:Bytes):Built (actTo n o r u):=Built.bnd (Built.acc _) fun _=>Built.ite (Built.bnd Built.name fun _=>Built.actEnd _ _ _ _ _) (Built.actEnd _ _ _ _ _)
theorem Built.act:Built act:=Built.bnd Built.name fun _=>Built.seq (Built.expect _) (Built.bnd Built.name fun _=>Built.bnd (Built.acc _) fun _=>Built.ite (Built.actGive _ _ _) (Built.bnd (Built.acc _) fun _=>Built.ite (Built.actGive _ _ _)
 (Built.bnd (Built.acc _) fun _=>Built.ite (Built.bnd Built.ratio fun _=>Built.bnd Built.name fun _=>Built.actTo _ _ _ _) (Built.actTo _ _ _ _))))
theorem Built.dutyEnd (n:Bytes) (oa:Bytes×Bytes) (t:Nat) (w g:Span):Built (dutyEnd n oa t w g):=Built.bnd Built.circ fun _=>Built.bnd Built.cons fun _=>Built.seq (Built.expect _) (Built.ret _)
theorem Built.dutyTail (n:Bytes) (oa:Bytes×Bytes) (t:Nat):Built (dutyTail n oa t):=Built.seq (Built.expect _) (Built.bnd Built.span fun _=>Built.bnd (Built.acc _) fun _=>Built.ite (Built.bnd Built.span fun _=>Built.dutyEnd _ _ _ _ _) (Built.dutyEnd _ _ _ _ _))
theorem Built.duty:Built duty:=Built.bnd Built.name fun _=>Built.bnd Built.bearer fun _=>Built.bnd (Built.opt 2) fun o=>by
 cases o
 ·exact Built.dutyTail _ _ _
 ·exact Built.seq (Built.expect _) (Built.dutyTail _ _ _)
theorem Built.ban:Built ban:=Built.bnd Built.name fun _=>Built.bnd Built.bearer fun _=>Built.seq (Built.expect _) (Built.bnd Built.span fun _=>Built.bnd Built.circ fun _=>Built.bnd Built.cons fun _=>Built.seq (Built.expect _) (Built.ret _))
theorem Built.option:Built option:=Built.bnd Built.name fun _=>Built.bnd Built.bearer fun _=>Built.seq (Built.expect _) (Built.bnd Built.span fun _=>Built.bnd Built.circ fun _=>Built.seq (Built.expect _) (Built.ret _))
theorem Built.watch:Built watch:=Built.bnd Built.name fun _=>Built.seq (Built.expect _) (Built.bnd Built.name fun _=>Built.seq (Built.expect _) (Built.bnd Built.span fun _=>Built.bnd Built.circ fun _=>Built.seq (Built.expect _) (Built.ret _)))
theorem Built.incl:Built incl:=Built.bnd Built.name fun _=>Built.seq (Built.expect _) (Built.bnd Built.name fun _=>Built.bnd Built.names fun _=>Built.seq (Built.expect _) (Built.ret _))
theorem Built.body (k:Nat):Built (body k):=by
 unfold Pr.body
 split
 ·exact Built.party
 ·exact Built.role
 ·exact Built.unit
 ·exact Built.weekend
 ·exact Built.holiday
 ·exact Built.spanDef
 ·exact Built.sumDef
 ·exact Built.act
 ·exact Built.duty
 ·exact Built.ban
 ·exact Built.option
 ·exact Built.watch
 ·exact Built.incl
theorem Built.inner:Built inner:=Built.bnd (Built.start _) fun o=>by
 cases o
 ·exact Built.ret _
 ·exact Built.bnd (Built.body _) fun _=>Built.ret _
theorem Built.tmplMore (n:Nat):Built (tmplMore n):=by
 induction n with
 |zero=>exact Built.ret _
 |succ n ih=>exact Built.bnd Built.good fun _=>Built.ite (Built.bnd (Built.acc _) fun _=>Built.ite (Built.ret _) (Built.bnd Built.inner fun _=>Built.bnd ih fun _=>Built.ret _)) (Built.ret _)
theorem Built.template:Built template:=Built.bnd Built.name fun _=>Built.bnd Built.names fun _=>Built.seq (Built.expect _) (Built.bnd (Built.long tmpl_fueled Built.tmplMore) fun _=>Built.ret _)
theorem Built.item:Built item:=Built.bnd (Built.start _) fun o=>by
 cases o
 ·exact Built.ret _
 ·exact Built.ite (Built.bnd Built.template fun _=>Built.ret _) (Built.bnd (Built.body _) fun _=>Built.ret _)
theorem Built.header:Built header:=Built.seq (Built.expect _) (Built.bnd Built.name fun _=>Built.seq (Built.expect _) (Built.bnd Built.date fun _=>Built.seq (Built.expect _) (Built.bnd Built.number fun _=>Built.seq (Built.expect _) (Built.ret _))))
theorem fail_same (s:St):(fail s).2.rest=s.rest:=by unfold fail;simp only;split<;>rfl
theorem fail_stk (s:St) (h:s.err≠0):(fail s).2=s:=by unfold fail;simp only;rw [if_pos h]
theorem isT_stk {x:Bytes} {s:St} (h:s.err≠0):isT x s=false:=by simp [isT,h]
theorem isK_stk {k:Nat} {s:St} (h:s.err≠0):isK k s=false:=by simp [isK,h]
theorem Built.suf {α:Type} {m:M α} (h:Built m): ∀s,(m s).2.rest<:+s.rest:=by
 induction h with
 |ret a=>intro s;exact List.suffix_refl _
 |bnd h hf ih ihf=>intro s;exact (ihf _ _).trans (ih s)
 |fail=>intro s;rw [fail_same];exact List.suffix_refl _
 |acc x=>intro s;unfold Pr.acc;split;exact List.tail_suffix _;exact List.suffix_refl _
 |opt k=>intro s;unfold Pr.opt;split;exact List.tail_suffix _;exact List.suffix_refl _
 |good=>intro s;exact List.suffix_refl _
 |long hf h ih=>intro s;exact ih _ s
 |start ws=>
  intro s
  unfold Pr.start
  split
  ·split
   ·exact List.suffix_refl _
   ·rename_i t r hr
    split
    ·rw [fail_same];exact List.suffix_refl _
    ·split
     ·exact List.suffix_refl _
     ·rw [hr];exact List.suffix_cons _ _
  ·rw [fail_same];exact List.suffix_refl _
theorem Built.stk {α:Type} {m:M α} (h:Built m): ∀s,s.err≠0→(m s).2=s:=by
 induction h with
 |ret a=>intro s _;rfl
 |bnd h hf ih ihf=>
  intro s hs
  show (_:_×St).2=s
  unfold Pr.bnd
  rw [ih s hs]
  exact ihf _ s hs
 |fail=>intro s hs;exact fail_stk s hs
 |acc x=>intro s hs;unfold Pr.acc;rw [isT_stk hs];rfl
 |opt k=>intro s hs;unfold Pr.opt;rw [isK_stk hs];rfl
 |good=>intro s _;rfl
 |long hf h ih=>intro s hs;exact ih _ s hs
 |start ws=>intro s hs;unfold Pr.start;rw [isK_stk hs];exact fail_stk s hs
theorem Built.ok {α:Type} {m:M α} (h:Built m) {s:St} (he:(m s).2.err=0):s.err=0:=by
 by_cases hs:s.err=0
 ·exact hs
 ·rw [h.stk s hs] at he;exact he
end Go.Proofs.YtfaflipphkoiiaaDoor.Pr
namespace Go.Proofs.YtfaflipphkoiiaaDoor.Pr
open Go.RowKit Mem
open Lx (Tok)
def lft (E:Env) (b:Nat) (w:World):Nat:=E.ts.length-(match w.cell? ⟨b,1,none⟩ with|some (.int _ n)=>n.toNat|_=>0)
theorem PW.lft {E:Env} {b:Nat} {s:St} {w:World} (h:PW E b s w):lft E b w=s.rest.length:=by
 obtain ⟨n,h1,h2,_,c1,_⟩:=h.cells
 unfold Pr.lft
 rw [c1,h2,List.length_drop]
 rfl
theorem PW.len {E:Env} {b:Nat} {s:St} {w:World} (h:PW E b s w):s.rest.length≤5000:=by
 obtain ⟨n,h1,h2,_⟩:=h.cells
 have:=h.1
 rw [h2,List.length_drop]
 omega
theorem info_str:(Tryd.prog.info? 9).map (fun i=>(i.zero,i.size,i.bytes))=some (some (.string ⟨#[]⟩),1,16):=by kernel_rfl
theorem one_new (W:World) (v:Value) (T:TypeId) (g:Nat) (hg:g=W.heap.size): ∀j u,[v][j]?=some u→(W.alloc (.cells #[v] T)).cell? ((⟨g,0,none⟩:Addr).add j)=some u:=cells_new W [v] T g hg
theorem After.grown {E:Env} {b:Nat} {s:St} {W W1 w4:World} {v:Value} {o:Obj} (h:After E b s W W1) (hg:(W1.alloc o).grownBy w4 v.ownBlock) (hv: ∀g,v.ownBlock=some g→W.heap.size≤g) (hb:b<W.heap.size):After E b s W w4:=by
 have h2:Fr (fun k=>W.heap.size≤k) W1 w4:=((Fr.refl _ _).alloc o).grown hg (fun k hk=> .inl (hv k hk))
 exact ⟨h.1.fr h2 (fun k hk hs=>by omega),h.2.trans' h2 (fun i hi hs=>by omega)⟩
def NRel (E:Env) (b:Nat) (W:World) (R:List Bytes) (sr:St) (v:Value) (wr:World):Prop:=
 ∃(l:List Bytes) (s':St) (f:Nat),After E b s' W wr∧wr.ownsRow W.heap.size 9 1 v l.length (l.map sv)∧s'.rest.length<f∧l.length+s'.rest.length≤5001∧(l++(namesMore f s').1,(namesMore f s').2)=(R,sr)
theorem names_any (E:Env) (b:Nat) (s:St) (W:World) (h:PW E b s W):
  Calls Tryd.prog 96 #[.pointer (some ⟨b,0,none⟩)] W fun e w'=>(∃sn,e= .returned sn∧w'.ownsRow W.heap.size 9 1 sn (names s).1.length ((names s).1.map sv))∧After E b (names s).2 W w':=by
 have hbl:=h.2.2.1
 obtain ⟨i0,hi,hz0,hz1,hz2⟩:=info_parts info_str
 obtain ⟨u1,s1,h1⟩: ∃x s',expect [[40]] s=(x,s'):=⟨_,_,rfl⟩
 obtain ⟨o2,s2,h2⟩: ∃x s',opt 1 s1=(x,s'):=⟨_,_,rfl⟩
 have HP:=hdd h;clear h
 cases o2 with
 |none=>
  obtain ⟨u3,s3,h3⟩: ∃x s',expect [[41]] s2=(x,s'):=⟨_,_,rfl⟩
  have hp:names s=([],s3):=(jx1 h1).trans ((jq3 h2).trans ((jx1 h3).trans rfl))
  rw [hp]
  have H1:=hdd h1;have H2:=hdd h2;have H3:=hdd h3
  clear h1 h2 h3 hp
  go_enter Tryd.func96,Tryd.ntmps96
  go_wp2_with fail
  refine (expect1 E b s [40] _ _ (by simp) HP.o).mono ?_
  rw [H1.o]
  rintro e w1 ⟨rfl,hA⟩
  have HA:=hdd hA;clear hA
  go_wp2_with fail
  refine (jz7 E b s1 1 _ HA.o.1).mono ?_
  rw [(jj5 H2.o).1]
  rintro e w2 ⟨rfl,m2,rfl⟩
  obtain rfl:=(jj5 H2.o).2
  go_wp2_with fail
  refine (expect1 E b s2 [41] _ _ (by simp) (HA.o.drewN m2).1).mono ?_
  rw [H3.o]
  rintro e w3 ⟨rfl,hA⟩
  have HA3:=hdd ((HA.o.drewN m2).trans hA);clear hA
  go_wp2_with fail
  go_ret
  exact ⟨⟨_,rfl,World.ownsRow_nil _ _ _ _⟩,HA3.o⟩
 |some t=>
  obtain ⟨R,sr,h3⟩: ∃R sr,long namesMore s2=(R,sr):=⟨_,_,rfl⟩
  obtain ⟨u4,s4,h4⟩: ∃x s',expect [[41]] sr=(x,s'):=⟨_,_,rfl⟩
  have hp:names s=(t.text::R,s4):=(jx1 h1).trans ((jq3 h2).trans ((jq3 h3).trans ((jx1 h4).trans rfl)))
  rw [hp]
  have H1:=hdd h1;have H2:=hdd h2;have H3:=hdd h3;have H4:=hdd h4
  clear h1 h2 h3 h4 hp
  have HO:Hid (∀w:World,w.ownsRow W.heap.size 9 1 (.slice none 0 0) 0 []):=fun w=>World.ownsRow_nil _ _ _ _
  go_enter Tryd.func96,Tryd.ntmps96
  go_wp2_with fail
  refine (expect1 E b s [40] _ _ (by simp) HP.o).mono ?_
  rw [H1.o]
  rintro e w1 ⟨rfl,hA⟩
  have HA:=hdd hA;clear hA
  go_wp2_with fail
  refine (jz7 E b s1 1 _ HA.o.1).mono ?_
  rw [(kx2 H2.o).1]
  rintro e w2 ⟨rfl,m2,rfl⟩
  go_wp2_with fail
  refine (name_any E b s1 _ (HA.o.drewN m2).1).mono ?_
  rw [name_of_opt H2.o]
  rintro e w3 ⟨rfl,hA⟩
  have HA3:=hdd ((HA.o.drewN m2).trans hA);clear hA HA
  have hz3:=HA3.o.2.size
  go_wp2_with (at_builtin;refine wpList_append_own_at _ rfl _ _ 55 rfl W.heap.size 9 i0 _ 1 16 Tryd.underlying55 hi hz0 hz1 hz2 rfl (by decide) _ 0 [] rfl (HO.o _) ⟨w3.heap.size,0,none⟩ 1 1 [.string ⟨t.text.toArray⟩] rfl rfl ?c1 ?c2 ?c3 ?c4 ?c5 ?_)
  case c1=>exact one_new _ _ _ _ rfl
  case c2=>intro u hu;simp at hu;subst hu;rfl
  case c3=>simp only [maxLen];omega
  case c4=>omega
  case c5=>simp only [World.size_alloc];omega
  intro v4 w4 hown4 hg4 hnil4 hat4
  obtain ⟨A4,cap4,rfl⟩:=own_form hown4
  have HA4:=hdd (HA3.o.grown hg4 (fun g hg=>by cases hg) hbl)
  have HO4:=hdd hown4
  clear hown4 hg4 hnil4 hat4 HA3
  have hln:=HA4.o.1.len
  go_wp2_with fail
  go_loopw [3] (fun v wr=>NRel E b W (t.text::R) sr v wr) (fun _ wr=>lft E b wr)
  case atStart=>exact ⟨[t.text],s2,s2.rest.length+1,HA4.o,HO4.o,by omega,by simp;omega,by have:=H3.o;unfold long at this;rw [this];rfl⟩
  case round=>
   obtain ⟨l,s',f,hA,hO,hf,hb,hX⟩:=hrel
   obtain ⟨A5,cap5,rfl⟩:=own_form hO
   obtain ⟨f,rfl⟩: ∃g,f=g+1:=⟨f-1,by omega⟩
   have hlf:=hA.1.lft
   have HA:=hdd hA;clear hA
   have HO:=hdd hO;clear hO
   rw [jk6] at hX
   cases ha:(acc [44] s').1 with
   |true=>
    obtain ⟨hl1,_⟩:=jk3 ha
    have hl2:=Mono.name (acc [44] s').2
    have hX3:(l++(name (acc [44] s').2).1::(namesMore f (name (acc [44] s').2).2).1,(namesMore f (name (acc [44] s').2).2).2)=(t.text::R,sr):=by rw [ha] at hX;exact hX
    have HX:=hdd hX3
    have HAA:=hdd ha
    clear hX hX3 ha
    have HLF:=hdd hlf;clear hlf
    go_wp2_with fail
    refine (jx0 E b s' [44] _ HA.o.1).mono ?_
    rw [HAA.o]
    rintro e w5 ⟨rfl,hA5⟩
    have HA5:=hdd (HA.o.trans hA5)
    have HO5:=hdd (jx5 HO.o hA5.2 (fun k hk _ e=>by omega));clear hA5
    go_wp2_with fail
    refine (name_any E b _ _ HA5.o.1).mono ?_
    generalize hnm:name (acc [44] s').2=nm at*
    obtain ⟨x,s6⟩:=nm
    have HNM:=hdd hnm;clear hnm
    rintro e w6 ⟨rfl,hA6⟩
    have HA6:=hdd (HA5.o.trans hA6)
    have HO6:=hdd (jx5 HO5.o hA6.2 (fun k hk _ e=>by omega));clear hA6 HA5 HO5
    have hz6:=HA6.o.2.size
    go_wp2_with (at_builtin;refine wpList_append_own_at _ rfl _ _ 55 rfl W.heap.size 9 i0 _ 1 16 Tryd.underlying55 hi hz0 hz1 hz2 rfl (by decide) _ _ _ rfl (jx5 HO6.o ((Fr.refl (fun _=>False) _).alloc _) (fun _ _ _ h=>h)) ⟨w6.heap.size,0,none⟩ 1 1 [.string ⟨x.toArray⟩] rfl rfl ?d1 ?d2 ?d3 ?d4 ?d5 ?_)
    case d1=>exact one_new _ _ _ _ rfl
    case d2=>intro u hu;simp at hu;subst hu;rfl
    case d3=>simp only [maxLen];omega
    case d4=>omega
    case d5=>simp only [World.size_alloc];omega
    intro v7 w7 hown7 hg7 hnil7 hat7
    have HA7:=hdd (HA6.o.grown hg7 (fun g hg=>(own_lt HO6.o g hg).1) hbl)
    have hlf7:=HA7.o.1.lft
    have HN:Hid (NRel E b W (t.text::R) sr v7 w7):=by
     refine ⟨l++ [x],s6,f,HA7.o,?_,by omega,by simp only [List.length_append,List.length_cons,List.length_nil];omega,by rw [←HX.o];simp⟩
     rw [List.length_append,List.map_append];exact hown7
    have HM:Hid (lft E b w7<lft E b wr):=by show _<_;rw [hlf7,HLF.o];omega
    clear hown7 hg7 hnil7 hat7 hlf7
    go_wp2_with fail
    go_roundw
    case rel=>exact HN.o
    case measure=>exact HM.o
   |false=>
    have hX3:(l,(acc [44] s').2)=(t.text::R,sr):=by rw [ha] at hX;simpa using hX
    injection hX3 with hX4 hX5
    have HX4:=hdd hX4;have HX5:=hdd hX5
    have HAA:=hdd ha
    clear hX hX4 hX5 ha hlf
    go_wp2_with fail
    refine (jx0 E b s' [44] _ HA.o.1).mono ?_
    rw [HAA.o,HX5.o]
    rintro e w5 ⟨rfl,hA5⟩
    have HA5:=hdd (HA.o.trans hA5)
    have HO5:=hdd (jx5 HO.o hA5.2 (fun k hk _ e=>by omega));clear hA5
    go_wp2_with fail
    refine (expect1 E b sr [41] _ _ (by simp) HA5.o.1).mono ?_
    rw [H4.o]
    rintro e w6 ⟨rfl,hA6⟩
    have HA6:=hdd (HA5.o.trans hA6)
    have HO6:=hdd (jx5 HO5.o hA6.2 (fun k hk _ e=>by omega));clear hA6
    go_wp2_with fail
    go_ret
    have e:=HX4.o
    subst e
    exact ⟨⟨_,rfl,HO6.o⟩,HA6.o⟩
end Go.Proofs.YtfaflipphkoiiaaDoor.Pr
