/-
  What the parser has read can be printed: the parts of items. The words that are printed are worth no more than the tokens that were read. No condition. What the parser has read can be printed: each kind of item. No condition. What the parser has read can be printed: clauses, templates, sources; the text of a tree that was read is not too long. No condition but the length of the text that was read. The tree of a text of at most 3000 bytes can be printed. Trees that can be printed are fine for the printer; the text does not hang on the items' offsets. No condition. The printer's text does not hang on the items' offsets; what the printer asks of a tree that was read. No condition.
-/
import Derived.Test.YtfficindoecpfaaGreatDoorPkInv
import Derived.Test.YtfficindoecpfaaGreatDoorPriParts
import Derived.Test.YtfficindoecpfaaGreatDoorPkPriE
set_option linter.unusedVariables false
set_option linter.unusedSimpArgs false
namespace Go.Proofs.YtfficindoecpfaaGreatDoor.Pt
open Rs Ic
open Lx (Tok)
class Stk {α:Type} (m:Pr.M α):Prop where
 stick: ∀s,s.err≠0→(m s).2.err≠0
instance {α:Type} (a:α):Stk (Pr.ret a):=⟨fun s h=>h⟩
instance stkB {α β:Type} (m:Pr.M α) (f:α→Pr.M β) [Stk m] [∀a,Stk (f a)]:Stk (Pr.bnd m f):=⟨fun s h=>Stk.stick (m:=f _) _ (Stk.stick (m:=m) s h)⟩
instance {α β:Type} (m:Pr.M α) (f:Pr.M β) [Stk m] [Stk f]:Stk (Pr.seq m f):=⟨fun s h=>Stk.stick (m:=f) _ (Stk.stick (m:=m) s h)⟩
instance:Stk Pr.fail:=⟨fun s h=>by unfold Pr.fail;rw [if_pos h];exact h⟩
instance (x:Bytes):Stk (Pr.acc x):=⟨fun s h=>by
 have:Pr.isT x s=false:=by unfold Pr.isT;simp [h]
 unfold Pr.acc;rw [this];exact h⟩
instance (k:Nat):Stk (Pr.opt k):=⟨fun s h=>by
 have:Pr.isK k s=false:=by unfold Pr.isK;simp [h]
 unfold Pr.opt;rw [this];exact h⟩
instance:Stk Pr.good:=⟨fun s h=>h⟩
instance:Stk Pr.more:=⟨fun s h=>h⟩
instance {α:Type} (m:Nat→Pr.M α) [∀n,Stk (m n)]:Stk (Pr.long m):=⟨fun s h=>Stk.stick (m:=m _) s h⟩
instance {α:Type} (c:Prop) [Decidable c] (a b:Pr.M α) [Stk a] [Stk b]:Stk (if c then a else b):=by split<;>infer_instance
theorem stkO {β:Type} (k:Nat) (f:Option Tok→Pr.M β) (h0:Stk (f none)) (h1: ∀t,Stk (f (some t))):Stk (Pr.bnd (Pr.opt k) f):=by
 have: ∀o,Stk (f o):=fun o=>by cases o;exact h0;exact h1 _
 infer_instance
instance (k:Nat):Stk (Pr.take k):=stkO k _ inferInstance (fun t=>(inferInstance:Stk (Pr.ret t)))
instance:Stk Pr.name:=by unfold Pr.name;infer_instance
instance:Stk Pr.number:=by unfold Pr.number;infer_instance
instance stkE: ∀l:List Bytes,Stk (Pr.expect l)
 | []=>(inferInstance:Stk (Pr.ret ()))
 |x::r=>by
  have:=stkE r
  show Stk (Pr.bnd (Pr.acc x) fun b=>if b then Pr.expect r else Pr.fail)
  infer_instance
instance stkA: ∀(l:List Bytes) (i:Nat),Stk (Pr.anyOf l i)
 | [],i=>(inferInstance:Stk (Pr.seq Pr.fail (Pr.ret 0)))
 |x::r,i=>by
  have:=stkA r (i+1)
  show Stk (Pr.bnd (Pr.acc x) fun b=>if b then Pr.ret i else Pr.anyOf r (i+1))
  infer_instance
instance:Stk Pr.ratio:=by unfold Pr.ratio;infer_instance
instance:Stk Pr.date:=by unfold Pr.date;infer_instance
instance:Stk Pr.days:=by unfold Pr.days;infer_instance
instance:Stk Pr.span:=stkO 1 _ inferInstance (fun t=>(inferInstance:Stk (Pr.ret _)))
instance stkN: ∀k,Stk (Pr.namesMore k)
 |0=>(inferInstance:Stk (Pr.ret []))
 |k+1=>by have:=stkN k;show Stk (Pr.bnd (Pr.acc [44]) fun b=>if b then Pr.bnd Pr.name fun x=>Pr.bnd (Pr.namesMore k) fun l=>Pr.ret (x::l) else Pr.ret []);infer_instance
instance (l:List Bytes):Stk (Pr.namesEnd l):=by unfold Pr.namesEnd;infer_instance
instance:Stk Pr.names:=by
 have:=stkO 1 (fun o:Option Tok=>match o with|some t=>Pr.bnd (Pr.long Pr.namesMore) fun l=>Pr.namesEnd (t.text::l)|none=>Pr.namesEnd []) inferInstance (fun t=>(inferInstance:Stk (Pr.bnd (Pr.long Pr.namesMore) fun l=>Pr.namesEnd (t.text::l))))
 unfold Pr.names;infer_instance
instance:Stk Pr.weekday:=by unfold Pr.weekday;infer_instance
instance:Stk Pr.status:=by unfold Pr.status;infer_instance
instance:Stk Pr.named:=by unfold Pr.named;infer_instance
instance stkW: ∀k l,Stk (Pr.weekendMore k l)
 |0,l=>(inferInstance:Stk (Pr.ret l))
 |k+1,l=>by have:=stkW k;show Stk (Pr.bnd Pr.weekday fun d=>Pr.bnd Pr.good fun g=>if g then Pr.bnd (Pr.acc [44]) fun b=>if b then Pr.weekendMore k (l.set d true) else Pr.seq (Pr.expect [[59]]) (Pr.ret (l.set d true)) else Pr.ret l);infer_instance
instance stkD: ∀k,Stk (Pr.datesMore k)
 |0=>(inferInstance:Stk (Pr.ret []))
 |k+1=>by have:=stkD k;show Stk (Pr.bnd Pr.date fun d=>Pr.bnd (Pr.acc [44]) fun b=>if b then Pr.bnd (Pr.datesMore k) fun l=>Pr.ret (d::l) else Pr.ret [d]);infer_instance
instance stkC: ∀k,Stk (Pr.condsMore k)
 |0=>(inferInstance:Stk (Pr.ret []))
 |k+1=>by have:=stkC k;show Stk (Pr.bnd Pr.named fun d=>Pr.bnd (Pr.acc [97,110,100]) fun b=>if b then Pr.bnd (Pr.condsMore k) fun l=>Pr.ret (d::l) else Pr.ret [d]);infer_instance
instance:Stk Pr.bearer:=by unfold Pr.bearer;infer_instance
instance (cs:List Pr.Named):Stk (Pr.circEnd cs):=by unfold Pr.circEnd;infer_instance
instance:Stk Pr.circ:=by unfold Pr.circ;infer_instance
instance (q:Pr.Price):Stk (Pr.consEnd q):=by unfold Pr.consEnd;infer_instance
instance (r:Pr.Ratio) (u c:Bytes):Stk (Pr.priceEnd r u c):=by unfold Pr.priceEnd;infer_instance
instance stkV:Stk (Pr.bnd (Pr.opt 1) fun o=>match o with|some t=>Pr.priceEnd ⟨0,0⟩ [] t.text|none=>Pr.bnd Pr.ratio fun r=>Pr.bnd Pr.name fun u=>Pr.priceEnd r u []):=stkO 1 _ inferInstance (fun t=>(inferInstance:Stk (Pr.priceEnd ⟨0,0⟩ [] t.text)))
instance:Stk Pr.cons:=by unfold Pr.cons;infer_instance
def wt (ts:List Tok):Nat:=(ts.map fun t=>t.text.length+1).sum
def wl (l:List Bytes):Nat:=(l.map fun x=>x.length+1).sum
theorem wl_app (a b:List Bytes):wl (a++b)=wl a+wl b:=by unfold wl;rw [List.map_append,List.sum_append]
theorem kj3 (x:Bytes) (l:List Bytes):wl (x::l)=x.length+1+wl l:=by unfold wl;rw [List.map_cons,List.sum_cons]
theorem wl_nil:wl []=0:=rfl
theorem wt_cons (t:Tok) (l:List Tok):wt (t::l)=t.text.length+1+wt l:=by unfold wt;rw [List.map_cons,List.sum_cons]
theorem wq:(∀a b:List Bytes,wl (a++b)=wl a+wl b)∧(∀(x:Bytes) (l:List Bytes),wl (x::l)=x.length+1+wl l)∧wl []=0∧(∀(c:UInt8) (l:Bytes),(c::l).length=l.length+1)∧([]:Bytes).length=0:=⟨wl_app,kj3,rfl,fun _ _=>rfl,rfl⟩
structure TOK (t:Tok):Prop where
 nm:t.kind=1→isName t.text=true
 nu:t.kind=2→t.n≤999999999999∧(Lib.decDigits t.n).length≤t.text.length
structure OkS (s:Pr.St):Prop where
 all: ∀t∈s.rest,TOK t
 err:s.err=0
structure Rd (s s1:Pr.St) (k:Nat):Prop where
 ok:OkS s1
 items:s1.items=s.items
 wt:k+wt s1.rest≤wt s.rest
 len:s1.rest.length≤s.rest.length
theorem Rd.refl {s:Pr.St} (h:OkS s):Rd s s 0:=⟨h,rfl,by omega,Nat.le_refl _⟩
theorem Rd.trans {s s1 s2:Pr.St} {k j:Nat} (h:Rd s s1 k) (h2:Rd s1 s2 j):Rd s s2 (k+j):=⟨h2.ok,h2.items.trans h.items,by have:=h.wt;have:=h2.wt;omega,Nat.le_trans h2.len h.len⟩
theorem Rd.le {s s1:Pr.St} {k j:Nat} (h:Rd s s1 k) (hj:j≤k):Rd s s1 j:=⟨h.ok,h.items,by have:=h.wt;omega,h.len⟩
theorem Rd.tok {s:Pr.St} {t:Tok} {r:List Tok} (h:OkS s) (e:s.rest=t::r):Rd s {s with rest:=r} (t.text.length+1):=
 ⟨⟨fun u hu=>h.all u (by rw [e];exact List.mem_cons_of_mem _ hu),h.err⟩,rfl,by rw [e,wt_cons];exact Nat.le_refl _,by rw [e];exact Nat.le_succ _⟩
theorem kv6 {α β:Type} {m:Pr.M α} {f:α→Pr.M β} {s s':Pr.St} {b:β} [∀a,Stk (f a)] (h:Pr.bnd m f s=(b,s')) (he:s'.err=0): ∃a s1,m s=(a,s1)∧f a s1=(b,s')∧s1.err=0:=by
 refine ⟨(m s).1,(m s).2,rfl,h,?_⟩
 by_cases hz:(m s).2.err=0
 ·exact hz
 ·have h1:=Stk.stick (m:=f (m s).1) _ hz
  have h2:f (m s).1 (m s).2=(b,s'):=h
  rw [h2] at h1
  exact absurd he h1
theorem acc_cases (x:Bytes) (s:Pr.St) (hs:OkS s):(∃t r,s.rest=t::r∧t.text=x∧Pr.acc x s=(true,{s with rest:=r}))∨Pr.acc x s=(false,s):=by
 unfold Pr.acc
 cases h:Pr.isT x s with
 |false=>exact .inr rfl
 |true=>
  unfold Pr.isT at h
  rw [Bool.and_eq_true] at h
  cases hr:s.rest with
  |nil=>rw [hr] at h;exact absurd h.2 Bool.false_ne_true
  |cons t r=>rw [hr] at h;exact .inl ⟨t,r,rfl,by simpa using h.2,rfl⟩
theorem opt_cases (k:Nat) (s:Pr.St):(∃t r,s.rest=t::r∧t.kind=k∧Pr.opt k s=(some t,{s with rest:=r}))∨Pr.opt k s=(none,s):=by
 unfold Pr.opt
 cases h:Pr.isK k s with
 |false=>exact .inr rfl
 |true=>
  unfold Pr.isK at h
  rw [Bool.and_eq_true] at h
  cases hr:s.rest with
  |nil=>rw [hr] at h;exact absurd h.2 Bool.false_ne_true
  |cons t r=>rw [hr] at h;exact .inl ⟨t,r,rfl,by simpa using h.2,rfl⟩
theorem fail_err (s:Pr.St) (h:s.err=0):(Pr.fail s).2.err≠0:=by
 unfold Pr.fail
 rw [if_neg (by omega)]
 cases s.rest<;>simp
theorem kj2 {β:Type} {x:Bytes} {f:Bool→Pr.M β} {s s':Pr.St} {b:β} (h:Pr.bnd (Pr.acc x) f s=(b,s')) (hs:OkS s):(∃s1,Rd s s1 (x.length+1)∧f true s1=(b,s'))∨f false s=(b,s'):=by
 rcases acc_cases x s hs with ⟨t,r,e,ht,ha⟩|ha
 ·refine .inl ⟨_,by rw [←ht];exact Rd.tok hs e,?_⟩
  rw [←Pr.jq7 (f:=f) ha];exact h
 ·exact .inr (by rw [←Pr.jq7 (f:=f) ha];exact h)
theorem kv7 {β:Type} {x:Bytes} {g:Pr.M β} [Stk g] {s s':Pr.St} {b:β} (h:Pr.seq (Pr.expect [x]) g s=(b,s')) (he:s'.err=0) (hs:OkS s): ∃s1,Rd s s1 (x.length+1)∧g s1=(b,s'):=by
 obtain ⟨a,s1,h1,h2,h3⟩:=kv6 (f:=fun _=>g) h he
 have h1:Pr.bnd (Pr.acc x) (fun b=>if b then Pr.expect [] else Pr.fail) s=(a,s1):=h1
 rcases kj2 h1 hs with ⟨s2,r,h4⟩|h4
 ·have h4:((),s2)=(a,s1):=h4
  injection h4 with _ h4
  subst h4
  exact ⟨s2,r,h2⟩
 ·have h4:Pr.fail s=(a,s1):=h4
  have h5:=fail_err s hs.err
  rw [h4] at h5
  exact absurd h3 h5
theorem take_inv {k:Nat} {s s1:Pr.St} {t:Tok} (h:Pr.take k s=(t,s1)) (he:s1.err=0) (hs:OkS s):t∈s.rest∧t.kind=k∧Rd s s1 (t.text.length+1):=by
 rcases opt_cases k s with ⟨u,r,e,hk,ha⟩|ha
 ·have h2:(u,({s with rest:=r}:Pr.St))=(t,s1):=by rw [←h];exact (Pr.jq7 (f:=fun o=>match o with|some t=>Pr.ret t|none=>Pr.seq Pr.fail (Pr.ret Pr.tok0)) ha).symm
  injection h2 with h2 h3
  subst h2 h3
  exact ⟨by rw [e];exact List.mem_cons_self ..,hk,Rd.tok hs e⟩
 ·have h2:Pr.seq Pr.fail (Pr.ret Pr.tok0) s=(t,s1):=by rw [←h];exact (Pr.jq7 (f:=fun o=>match o with|some t=>Pr.ret t|none=>Pr.seq Pr.fail (Pr.ret Pr.tok0)) ha).symm
  have h3:(Pr.fail s).2=s1:=congrArg Prod.snd h2
  have h5:=fail_err s hs.err
  rw [h3] at h5
  exact absurd he h5
theorem kv8 {β:Type} {f:Bytes→Pr.M β} [∀a,Stk (f a)] {s s':Pr.St} {b:β} (h:Pr.bnd Pr.name f s=(b,s')) (he:s'.err=0) (hs:OkS s): ∃x s1,isName x=true∧Rd s s1 (x.length+1)∧f x s1=(b,s'):=by
 obtain ⟨x,s1,h1,h2,h3⟩:=kv6 h he
 have h4:Pr.take 1 s=((Pr.take 1 s).1,s1):=by
  have:(Pr.take 1 s).2=s1:=congrArg Prod.snd h1
  rw [←this]
 have h5:(Pr.take 1 s).1.text=x:=congrArg Prod.fst h1
 obtain ⟨k1,k2,k3⟩:=take_inv h4 h3 hs
 rw [h5] at k3
 exact ⟨x,s1,by rw [←h5];exact (hs.all _ k1).nm k2,k3,h2⟩
theorem num_inv {β:Type} {f:Nat→Pr.M β} [∀a,Stk (f a)] {s s':Pr.St} {b:β} (h:Pr.bnd Pr.number f s=(b,s')) (he:s'.err=0) (hs:OkS s): ∃(n:Nat) (s1:Pr.St),number (n:Int)=some [dec n]∧Rd s s1 ((dec n).length+1)∧f n s1=(b,s'):=by
 obtain ⟨x,s1,h1,h2,h3⟩:=kv6 h he
 have h4:Pr.take 2 s=((Pr.take 2 s).1,s1):=by
  have:(Pr.take 2 s).2=s1:=congrArg Prod.snd h1
  rw [←this]
 have h5:(Pr.take 2 s).1.n=x:=congrArg Prod.fst h1
 obtain ⟨k1,k2,k3⟩:=take_inv h4 h3 hs
 obtain ⟨k4,k5⟩:=(hs.all _ k1).nu k2
 rw [h5] at k4 k5
 refine ⟨x,s1,by unfold number;rw [if_pos (by omega)],k3.le ?_,h2⟩
 rw [dec_nat (by omega),Int.toNat_natCast]
 omega
theorem kv5 {a b:T} {x y:List Bytes} (ha:a=some x) (hb:b=some y):cat a b=some (x++y):=by rw [ha,hb];rfl
theorem kj0 {x:Bytes} (h:isName x=true):name x=some [x]:=by unfold name;rw [if_pos h]
theorem kj7 {x:Bytes} (h:isName x=true):x≠ []:=fun e=>by subst e;revert h;decide
theorem ratio_inv {s s1:Pr.St} {r:Pr.Ratio} (h:Pr.ratio s=(r,s1)) (he:s1.err=0) (hs:OkS s): ∃a b,number (r.num:Int)=some a∧(if (r.den:Int)=1 then ok [] else cat (ok [[47]]) (number (r.den:Int)))=some b∧Rd s s1 (wl (a++b)):=by
 obtain ⟨n,s2,hn,r1,h⟩:=num_inv h he hs
 rcases kj2 h r1.ok with ⟨s3,r2,h⟩|h
 ·have h:Pr.bnd Pr.number (fun d=>Pr.ret (⟨n,d⟩:Pr.Ratio)) s3=(r,s1):=h
  obtain ⟨d,s4,hd,r3,h⟩:=num_inv h he r2.ok
  have h:((⟨n,d⟩:Pr.Ratio),s4)=(r,s1):=h
  injection h with h1 h2
  subst h1 h2
  have rr:=(r1.trans r2).trans r3
  by_cases hd1:(d:Int)=1
  ·exact ⟨_,_,hn,if_pos hd1,rr.le (by simp only [wl_app,kj3,wl_nil];omega)⟩
  ·exact ⟨_,_,hn,(if_neg hd1).trans (kv5 rfl hd),rr.le (by simp only [wq];omega)⟩
 ·have h:((⟨n,1⟩:Pr.Ratio),s2)=(r,s1):=h
  injection h with h1 h2
  subst h1 h2
  exact ⟨_,_,hn,if_pos rfl,r1.le (by simp only [wl_app,kj3,wl_nil];omega)⟩
theorem amount_inv {β:Type} {f:Pr.Ratio→Bytes→Pr.M β} [∀q v,Stk (f q v)] {s s':Pr.St} {b:β} (h:Pr.bnd Pr.ratio (fun q=>Pr.bnd Pr.name fun v=>f q v) s=(b,s')) (he:s'.err=0) (hs:OkS s):
  ∃(q:Pr.Ratio) (u:Bytes) (s1:Pr.St) (l:List Bytes),isName u=true∧amount ⟨q.num,q.den⟩ u=some l∧Rd s s1 (wl l)∧f q u s1=(b,s'):=by
 obtain ⟨q,s1,h1,h2,h3⟩:=kv6 h he
 obtain ⟨x,y,e1,e2,r1⟩:=ratio_inv h1 h3 hs
 obtain ⟨u,s2,hu,r2,h4⟩:=kv8 h2 he r1.ok
 refine ⟨q,u,s2,_,hu,kv5 e1 (kv5 e2 (kj0 hu)),(r1.trans r2).le ?_,h4⟩
 simp only [wl_app,kj3,wl_nil];omega
theorem date_inv {s s1:Pr.St} {c:Pr.Civil} (h:Pr.date s=(c,s1)) (he:s1.err=0) (hs:OkS s): ∃l,date (rsc c)=some l∧Rd s s1 (wl l):=by
 obtain ⟨y,t1,e1,r1,h⟩:=num_inv h he hs
 obtain ⟨t2,r2,h⟩:=kv7 h he r1.ok
 obtain ⟨m,t3,e3,r3,h⟩:=num_inv h he r2.ok
 obtain ⟨t4,r4,h⟩:=kv7 h he r3.ok
 obtain ⟨d,t5,e5,r5,h⟩:=num_inv h he r4.ok
 have h:((⟨y,m,d⟩:Pr.Civil),t5)=(c,s1):=h
 injection h with h1 h2
 subst h1 h2
 refine ⟨_,kv5 e1 (kv5 rfl (kv5 e3 (kv5 rfl e5))),((((r1.trans r2).trans r3).trans r4).trans r5).le ?_⟩
 simp only [wq];omega
theorem days_inv {s s1:Pr.St} {w:Pr.Span} (h:Pr.days s=(w,s1)) (he:s1.err=0) (hs:OkS s): ∃l,daysT (rsp w)=some l∧w.name= []∧Rd s s1 (wl l):=by
 obtain ⟨n,t1,e1,r1,h⟩:=num_inv h he hs
 rcases kj2 h r1.ok with ⟨t2,r2,h⟩|h
 ·obtain ⟨t3,r3,h⟩:=kv7 h he r2.ok
  have h:((⟨n,true,[]⟩:Pr.Span),t3)=(w,s1):=h
  injection h with h1 h2
  subst h1 h2
  refine ⟨_,kv5 e1 (kv5 (if_pos rfl) rfl),rfl,((r1.trans r2).trans r3).le ?_⟩
  simp only [wq];omega
 ·obtain ⟨t3,r3,h⟩:=kv7 h he r1.ok
  have h:((⟨n,false,[]⟩:Pr.Span),t3)=(w,s1):=h
  injection h with h1 h2
  subst h1 h2
  refine ⟨_,kv5 e1 (kv5 (if_neg (by show ¬(false=true);decide)) rfl),rfl,(r1.trans r3).le ?_⟩
  simp only [wq];omega
theorem span_inv {s s1:Pr.St} {w:Pr.Span} (h:Pr.span s=(w,s1)) (he:s1.err=0) (hs:OkS s): ∃l,span (rsp w)=some l∧spanLeft (rsp w)=span0∧Rd s s1 (wl l):=by
 rcases opt_cases 1 s with ⟨t,r,e,hk,ha⟩|ha
 ·have h2:((⟨0,false,t.text⟩:Pr.Span),({s with rest:=r}:Pr.St))=(w,s1):=by
   rw [←h];exact (Pr.jq7 (f:=fun o=>match o with|some t=>Pr.ret ⟨0,false,t.text⟩|none=>Pr.days) ha).symm
  injection h2 with h2 h3
  subst h2 h3
  have hn:=(hs.all t (by rw [e];exact List.mem_cons_self ..)).nm hk
  refine ⟨[t.text],?_,?_,(Rd.tok hs e).le (by simp only [kj3,wl_nil];omega)⟩
  ·exact (if_neg (kj7 hn)).trans (kj0 hn)
  ·exact if_neg (kj7 hn)
 ·have h2:Pr.days s=(w,s1):=by rw [←h];exact (Pr.jq7 (f:=fun o=>match o with|some t=>Pr.ret ⟨0,false,t.text⟩|none=>Pr.days) ha).symm
  obtain ⟨l,e1,e2,r1⟩:=days_inv h2 he hs
  refine ⟨l,(if_pos e2).trans e1,?_,r1⟩
  unfold spanLeft
  rw [if_pos (show (rsp w).name= [] from e2)]
  unfold daysLeft rsp span0
  rw [e2]
theorem commas_first {α:Type} {f:α→T} {a:α} {x:List α} {l:List Bytes} (h:commas f true (a::x)=some l):commas f false (a::x)=some ([44]::l):=by
 obtain ⟨c,d,h1,h2,rfl⟩:=jq4 h
 rw [if_pos rfl] at h1
 rw [jx4 h1]
 exact kv5 (if_neg (by decide)) h2
theorem more_names: ∀(k:Nat) {s s1:Pr.St} {l:List Bytes},Pr.namesMore k s=(l,s1)→s1.err=0→OkS s→ ∃w,commas name false l=some w∧Rd s s1 (wl w)
 |0,s,s1,l,h,he,hs=>by
  have h:(([]:List Bytes),s)=(l,s1):=h
  injection h with h1 h2
  subst h1 h2
  exact ⟨[],rfl,Rd.refl hs⟩
 |k+1,s,s1,l,h,he,hs=>by
  rcases kj2 h hs with ⟨t1,r1,h⟩|h
  ·have h:Pr.bnd Pr.name (fun x=>Pr.bnd (Pr.namesMore k) fun l=>Pr.ret (x::l)) t1=(l,s1):=h
   obtain ⟨x,t2,hx,r2,h⟩:=kv8 h he r1.ok
   obtain ⟨m,t3,h3,h4,h5⟩:=kv6 h he
   obtain ⟨w,e,r3⟩:=more_names k h3 h5 r2.ok
   have h4:(x::m,t3)=(l,s1):=h4
   injection h4 with h6 h7
   subst h6 h7
   refine ⟨_,kv5 (if_neg (by decide)) (kv5 (kj0 hx) e),((r1.trans r2).trans r3).le ?_⟩
   simp only [wq];omega
  ·have h:(([]:List Bytes),s)=(l,s1):=h
   injection h with h1 h2
   subst h1 h2
   exact ⟨[],rfl,Rd.refl hs⟩
theorem names_inv {s s1:Pr.St} {l:List Bytes} (h:Pr.names s=(l,s1)) (he:s1.err=0) (hs:OkS s): ∃w,namesT l=some w∧Rd s s1 (wl w):=by
 have i1:Stk (Pr.bnd (Pr.opt 1) fun o=>match o with|some t=>Pr.bnd (Pr.long Pr.namesMore) fun l=>Pr.namesEnd (t.text::l)|none=>Pr.namesEnd []):=stkO 1 _ inferInstance (fun t=>(inferInstance:Stk (Pr.bnd (Pr.long Pr.namesMore) fun l=>Pr.namesEnd (t.text::l))))
 obtain ⟨t1,r1,h⟩:=kv7 h he hs
 rcases opt_cases 1 t1 with ⟨t,r,e,hk,ha⟩|ha
 ·have h2:Pr.bnd (Pr.long Pr.namesMore) (fun l=>Pr.namesEnd (t.text::l)) {t1 with rest:=r}=(l,s1):=by
   rw [←h];exact (Pr.jq7 (f:=fun o=>match o with|some t=>Pr.bnd (Pr.long Pr.namesMore) fun l=>Pr.namesEnd (t.text::l)|none=>Pr.namesEnd []) ha).symm
  have hn:=(r1.ok.all t (by rw [e];exact List.mem_cons_self ..)).nm hk
  have r2:=Rd.tok r1.ok e
  obtain ⟨m,t3,h3,h4,h5⟩:=kv6 h2 he
  obtain ⟨w,e3,r3⟩:=more_names _ (show Pr.namesMore _ _=(m,t3) from h3) h5 r2.ok
  obtain ⟨t4,r4,h⟩:=kv7 h4 he r3.ok
  have h:(t.text::m,t4)=(l,s1):=h
  injection h with h6 h7
  subst h6 h7
  refine ⟨_,kv5 rfl (kv5 (kv5 (if_pos rfl) (kv5 (kj0 hn) e3)) rfl),(((r1.trans r2).trans r3).trans r4).le ?_⟩
  simp only [wq];omega
 ·have h2:Pr.namesEnd [] t1=(l,s1):=by
   rw [←h];exact (Pr.jq7 (f:=fun o=>match o with|some t=>Pr.bnd (Pr.long Pr.namesMore) fun l=>Pr.namesEnd (t.text::l)|none=>Pr.namesEnd []) ha).symm
  obtain ⟨t4,r4,h⟩:=kv7 h2 he r1.ok
  have h:(([]:List Bytes),t4)=(l,s1):=h
  injection h with h6 h7
  subst h6 h7
  refine ⟨_,kv5 rfl (kv5 rfl rfl),(r1.trans r4).le ?_⟩
  simp only [wq];omega
theorem more_dates: ∀(k:Nat) {s s1:Pr.St} {l:List Pr.Civil},Pr.datesMore k s=(l,s1)→s1.err=0→OkS s→ ∃w,commas date true (l.map rsc)=some w∧(k≠0→l≠ [])∧Rd s s1 (wl w)
 |0,s,s1,l,h,he,hs=>by
  have h:(([]:List Pr.Civil),s)=(l,s1):=h
  injection h with h1 h2
  subst h1 h2
  exact ⟨[],rfl,fun e=>absurd rfl e,Rd.refl hs⟩
 |k+1,s,s1,l,h,he,hs=>by
  have ik:=stkD k
  obtain ⟨d,t1,h1,h2,h3⟩:=kv6 h he
  obtain ⟨w1,e1,r1⟩:=date_inv h1 h3 hs
  rcases kj2 h2 r1.ok with ⟨t2,r2,h⟩|h
  ·have h:Pr.bnd (Pr.datesMore k) (fun l=>Pr.ret (d::l)) t2=(l,s1):=h
   obtain ⟨m,t3,h3,h4,h5⟩:=kv6 h he
   obtain ⟨w,e,_,r3⟩:=more_dates k h3 h5 r2.ok
   have h4:(d::m,t3)=(l,s1):=h4
   injection h4 with h6 h7
   subst h6 h7
   cases m with
   |nil=>
    refine ⟨_,kv5 (if_pos rfl) (kv5 e1 rfl),(fun _ e=>by cases e),((r1.trans r2).trans r3).le ?_⟩
    simp only [wq];omega
   |cons a m=>
    refine ⟨_,kv5 (if_pos rfl) (kv5 e1 (commas_first e)),(fun _ e=>by cases e),((r1.trans r2).trans r3).le ?_⟩
    simp only [wq];omega
  ·have h:([d],t1)=(l,s1):=h
   injection h with h6 h7
   subst h6 h7
   refine ⟨_,kv5 (if_pos rfl) (kv5 e1 rfl),(fun _ e=>by cases e),r1.le ?_⟩
   simp only [wq];omega
theorem any_inv: ∀(ws:List Bytes) (i:Nat) {s s1:Pr.St} {j:Nat},Pr.anyOf ws i s=(j,s1)→s1.err=0→OkS s→ ∃k w,j=i+k∧ws[k]?=some w∧Rd s s1 (w.length+1)
 | [],i,s,s1,j,h,he,hs=>by
  have h2:(Pr.fail s).2=s1:=congrArg Prod.snd h
  have h5:=fail_err s hs.err
  rw [h2] at h5
  exact absurd he h5
 |x::ws,i,s,s1,j,h,he,hs=>by
  rcases kj2 h hs with ⟨t1,r1,h⟩|h
  ·have h:(i,t1)=(j,s1):=h
   injection h with h1 h2
   subst h1 h2
   exact ⟨0,x,rfl,rfl,r1⟩
  ·obtain ⟨k,w,rfl,h2,r⟩:=any_inv ws (i+1) h he hs
   exact ⟨k+1,w,by omega,h2,r⟩
theorem named_inv {s s1:Pr.St} {c:Pr.Named} (h:Pr.named s=(c,s1)) (he:s1.err=0) (hs:OkS s):isName c.name=true∧(1≤(c.is_:Int)∧(c.is_:Int)≤4)∧Rd s s1 (c.name.length+1+((statusT c.is_).length+1)):=by
 obtain ⟨x,t1,hx,r1,h⟩:=kv8 h he hs
 obtain ⟨i,t2,h1,h2,h3⟩:=kv6 h he
 obtain ⟨k,w,rfl,hw,r2⟩:=any_inv _ _ h1 h3 r1.ok
 have h2:((⟨x,1+k⟩:Pr.Named),t2)=(c,s1):=h2
 injection h2 with h4 h5
 subst h4 h5
 have hk:k<4:=(List.getElem?_eq_some_iff.1 hw).1
 have hs: ∀k:Fin 4,[[115,116,97,114,116,101,100],[100,111,110,101],[102,97,105,108,101,100],[118,111,105,100]][k.val]?=some (statusT ((1+k.val:Nat):Int)):=by decide
 have hs:=hs ⟨k,hk⟩
 dsimp only at hs
 have hs:some (statusT ((1+k:Nat):Int))=some w:=hs.symm.trans hw
 injection hs with hs
 refine ⟨hx,?_,?_⟩
 ·show 1≤((1+k:Nat):Int)∧((1+k:Nat):Int)≤4;omega
 ·show Rd _ _ (x.length+1+((statusT ((1+k:Nat):Int)).length+1))
  rw [hs];exact r1.trans r2
theorem conds_and {c:Named} {x:List Named} {l:List Bytes} (h:conds true (c::x)=some l): ∃m,l= [105,102]::m∧conds false (c::x)=some ([97,110,100]::m):=by
 obtain ⟨p,q,h1,h2,rfl⟩:=jq4 h
 unfold cond at h1
 split at h1
 ·next hc=>
  obtain ⟨a,b,h3,h4,rfl⟩:=jq4 h1
  rw [jx4 h3]
  exact ⟨b++q,rfl,kv5 (a:=cond false c) (x:= [97,110,100]::b) ((if_pos hc).trans (kv5 rfl h4)) h2⟩
 ·cases h1
theorem more_conds: ∀(k:Nat) {s s1:Pr.St} {l:List Pr.Named},Pr.condsMore k s=(l,s1)→s1.err=0→OkS s→(l= []∧s1=s)∨ ∃m,conds true (l.map rsn)=some ([105,102]::m)∧Rd s s1 (wl m)
 |0,s,s1,l,h,he,hs=>by
  have h:(([]:List Pr.Named),s)=(l,s1):=h
  injection h with h1 h2
  exact .inl ⟨h1.symm,h2.symm⟩
 |k+1,s,s1,l,h,he,hs=>by
  have ik:=stkC k
  obtain ⟨d,t1,h1,h2,h3⟩:=kv6 h he
  obtain ⟨hn,hi,r1⟩:=named_inv h1 h3 hs
  have hc:cond true (rsn d)=some [[105,102],d.name,statusT d.is_]:=(if_pos hi).trans (kv5 rfl (kv5 (kj0 hn) rfl))
  right
  rcases kj2 h2 r1.ok with ⟨t2,r2,h⟩|h
  ·have h:Pr.bnd (Pr.condsMore k) (fun l=>Pr.ret (d::l)) t2=(l,s1):=h
   obtain ⟨m,t3,h3,h4,h5⟩:=kv6 h he
   have h4:(d::m,t3)=(l,s1):=h4
   injection h4 with h6 h7
   subst h6 h7
   rcases more_conds k h3 h5 r2.ok with ⟨rfl,rfl⟩|⟨w,e,r3⟩
   ·refine ⟨[d.name,statusT d.is_]++ [],(by show cat (cond true (rsn d)) (some [])=_;rw [hc];rfl),(r1.trans r2).le ?_⟩
    simp only [List.nil_append,wl_app,kj3,wl_nil,List.length_cons,List.length_nil];omega
   ·cases m with
    |nil=>cases e
    |cons a m=>
     obtain ⟨w2,e2,e3⟩:=conds_and e
     injection e2 with _ e2
     subst e2
     refine ⟨[d.name,statusT d.is_]++([97,110,100]::w),(by show cat (cond true (rsn d)) (conds false (rsn a::m.map rsn))=_;have e3:conds false (rsn a::m.map rsn)=_:=e3;rw [hc,e3];rfl),((r1.trans r2).trans r3).le ?_⟩
     simp only [List.cons_append,List.nil_append,wl_app,kj3,wl_nil,List.length_cons,List.length_nil];omega
  ·have h:([d],t1)=(l,s1):=h
   injection h with h6 h7
   subst h6 h7
   refine ⟨[d.name,statusT d.is_]++ [],(by show cat (cond true (rsn d)) (some [])=_;rw [hc];rfl),r1.le ?_⟩
   simp only [List.nil_append,wl_app,kj3,wl_nil];omega
theorem bearer_inv {s s1:Pr.St} {oa:Bytes×Bytes} (h:Pr.bearer s=(oa,s1)) (he:s1.err=0) (hs:OkS s): ∃l,(∀h:Rs.Item,h.of_=oa.1→h.act=oa.2→bearer h=some l)∧Rd s s1 (wl l):=by
 obtain ⟨t1,r1,h⟩:=kv7 h he hs
 obtain ⟨o,t2,ho,r2,h⟩:=kv8 h he r1.ok
 obtain ⟨t3,r3,h⟩:=kv7 h he r2.ok
 obtain ⟨a,t4,ha,r4,h⟩:=kv8 h he r3.ok
 have h:((o,a),t4)=(oa,s1):=h
 injection h with h1 h2
 subst h1 h2
 refine ⟨_,fun h e1 e2=>kv5 rfl (kv5 (by rw [e1];exact kj0 ho) (kv5 rfl (by rw [e2];exact kj0 ha))),(((r1.trans r2).trans r3).trans r4).le ?_⟩
 simp only [wq];omega
theorem cend_inv {cs:List Pr.Named} {s s1:Pr.St} {c:List Pr.Named×Bytes×Bytes} (h:Pr.circEnd cs s=(c,s1)) (he:s1.err=0) (hs:OkS s):
  c.1=cs∧ ∃l,(∀h:Rs.Item,h.by_=c.2.1→h.til=c.2.2→(if h.by_= []∧h.til= [] then ok [] else cat (ok [[112,97,117,115,101,100],[98,121]]) (cat (name h.by_) (cat (ok [[117,110,116,105,108]]) (name h.til))))=some l)∧Rd s s1 (wl l):=by
 rcases kj2 h hs with ⟨t1,r1,h⟩|h
 ·obtain ⟨t2,r2,h⟩:=kv7 (g:=Pr.bnd Pr.name fun x=>Pr.seq (Pr.expect [[117,110,116,105,108]]) (Pr.bnd Pr.name fun y=>Pr.ret (cs,x,y))) h he r1.ok
  obtain ⟨x,t3,hx,r3,h⟩:=kv8 h he r2.ok
  obtain ⟨t4,r4,h⟩:=kv7 h he r3.ok
  obtain ⟨y,t5,hy,r5,h⟩:=kv8 h he r4.ok
  have h:((cs,x,y),t5)=(c,s1):=h
  injection h with h1 h2
  subst h1 h2
  refine ⟨rfl,_,fun h e1 e2=>(if_neg (by rw [e1];exact fun e=>kj7 hx e.1)).trans (kv5 rfl (kv5 (by rw [e1];exact kj0 hx) (kv5 rfl (by rw [e2];exact kj0 hy)))),((((r1.trans r2).trans r3).trans r4).trans r5).le ?_⟩
  simp only [wq];omega
 ·have h:((cs,[],[]),s)=(c,s1):=h
  injection h with h1 h2
  subst h1 h2
  exact ⟨rfl,[],fun h e1 e2=>if_pos ⟨e1,e2⟩,Rd.refl hs⟩
theorem circ_inv {s s1:Pr.St} {c:List Pr.Named×Bytes×Bytes} (h:Pr.circ s=(c,s1)) (he:s1.err=0) (hs:OkS s):
  ∃l,(∀h:Rs.Item,h.conds=c.1.map rsn→h.by_=c.2.1→h.til=c.2.2→circ h=some l)∧Rd s s1 (wl l):=by
 rcases kj2 h hs with ⟨t1,r1,h⟩|h
 ·have h:Pr.bnd (Pr.long Pr.condsMore) Pr.circEnd t1=(c,s1):=h
  obtain ⟨cs,t2,h1,h2,h3⟩:=kv6 h he
  rcases more_conds _ (show Pr.condsMore _ _=(cs,t2) from h1) h3 r1.ok with ⟨rfl,rfl⟩|⟨m,e,r2⟩
  ·obtain ⟨e1,l,e2,r3⟩:=cend_inv h2 he r1.ok
   exact ⟨[]++l,fun h k1 k2 k3=>kv5 (by rw [k1,e1];rfl) (e2 h k2 k3),(r1.trans r3).le (by simp only [List.nil_append,List.length_cons,List.length_nil];omega)⟩
  ·obtain ⟨e1,l,e2,r3⟩:=cend_inv h2 he r2.ok
   refine ⟨([105,102]::m)++l,fun h k1 k2 k3=>kv5 (by rw [k1,e1];exact e) (e2 h k2 k3),((r1.trans r2).trans r3).le ?_⟩
   simp only [wq];omega
 ·have h:Pr.circEnd [] s=(c,s1):=h
  obtain ⟨e1,l,e2,r3⟩:=cend_inv h he hs
  exact ⟨[]++l,fun h k1 k2 k3=>kv5 (by rw [k1,e1];rfl) (e2 h k2 k3),r3.le (by rw [List.nil_append];exact Nat.le_refl _)⟩
theorem consEnd_inv {q:Pr.Price} {s s1:Pr.St} {r:Pr.Price×Bool} (h:Pr.consEnd q s=(r,s1)) (he:s1.err=0) (hs:OkS s):r.1=q∧ ∃l,(if r.2 then ok [[102,105,110,97,108]] else ok [])=some l∧Rd s s1 (wl l):=by
 rcases kj2 h hs with ⟨t1,r1,h⟩|h
 ·have h:((q,true),t1)=(r,s1):=h
  injection h with h1 h2
  subst h1 h2
  exact ⟨rfl,_,if_pos rfl,r1.le (by simp only [wq];omega)⟩
 ·have h:((q,false),s)=(r,s1):=h
  injection h with h1 h2
  subst h1 h2
  exact ⟨rfl,[],if_neg (show ¬(false=true) by decide),Rd.refl hs⟩
theorem cons_inv {s s1:Pr.St} {r:Pr.Price×Bool} (h:Pr.cons s=(r,s1)) (he:s1.err=0) (hs:OkS s):
  ∃l,(∀h:Rs.Item,h.num=⟨r.1.num.num,r.1.num.den⟩→h.unit=r.1.unit→h.sum=r.1.sum→h.to_=r.1.to_→h.fin=r.2→cons h=some l∧ConsB h)∧Rd s s1 (wl l):=by
 rcases kj2 h hs with ⟨t1,r1,h⟩|h
 ·rcases opt_cases 1 t1 with ⟨t,rr,e,hk,ha⟩|ha
  ·have h2:Pr.priceEnd ⟨0,0⟩ [] t.text {t1 with rest:=rr}=(r,s1):=by
    rw [←h];exact (Pr.jq7 (f:=fun o=>match o with|some t=>Pr.priceEnd ⟨0,0⟩ [] t.text|none=>Pr.bnd Pr.ratio fun r=>Pr.bnd Pr.name fun u=>Pr.priceEnd r u []) ha).symm
   have hn:=(r1.ok.all t (by rw [e];exact List.mem_cons_self ..)).nm hk
   have r2:=Rd.tok r1.ok e
   obtain ⟨t3,r3,h⟩:=kv7 h2 he r2.ok
   obtain ⟨x,t4,hx,r4,h⟩:=kv8 h he r3.ok
   obtain ⟨e1,l,e2,r5⟩:=consEnd_inv h he r4.ok
   refine ⟨([[118,97,108,117,101]]++([t.text]++([[116,111]]++ [x])))++l,fun h k1 k2 k3 k4 k5=>?_,((((r1.trans r2).trans r3).trans r4).trans r5).le ?_⟩
   ·rw [e1] at k1 k2 k3 k4
    have k2:h.unit= []:=k2
    have k3:h.sum=t.text:=k3
    have hne:h.sum≠ []:=by rw [k3];exact kj7 hn
    refine ⟨kv5 ((if_neg (fun e=>hne e.1)).trans (kv5 rfl (kv5 ((if_neg hne).trans (by rw [k3];exact kj0 hn)) (kv5 rfl (by rw [k4];exact kj0 hx))))) (by rw [k5];exact e2),?_⟩
    refine ⟨?_,?_,?_⟩
    ·rw [kx0,if_neg (fun e=>hne e.1),if_neg hne,k1];rfl
    ·rw [kq2,if_neg (fun e=>hne e.1),if_neg hne,k2]
    ·rw [kv3,if_neg (fun e=>hne e.1)]
   ·simp only [wq];omega
  ·have h2:Pr.bnd Pr.ratio (fun r=>Pr.bnd Pr.name fun u=>Pr.priceEnd r u []) t1=(r,s1):=by
    rw [←h];exact (Pr.jq7 (f:=fun o=>match o with|some t=>Pr.priceEnd ⟨0,0⟩ [] t.text|none=>Pr.bnd Pr.ratio fun r=>Pr.bnd Pr.name fun u=>Pr.priceEnd r u []) ha).symm
   obtain ⟨q,u,t2,m,hu,em,r2,h⟩:=amount_inv (f:=fun r u=>Pr.priceEnd r u []) h2 he r1.ok
   obtain ⟨t3,r3,h⟩:=kv7 h he r2.ok
   obtain ⟨x,t4,hx,r4,h⟩:=kv8 h he r3.ok
   obtain ⟨e1,l,e2,r5⟩:=consEnd_inv h he r4.ok
   refine ⟨([[118,97,108,117,101]]++(m++([[116,111]]++ [x])))++l,fun h k1 k2 k3 k4 k5=>?_,((((r1.trans r2).trans r3).trans r4).trans r5).le ?_⟩
   ·rw [e1] at k1 k2 k3 k4
    have k2:h.unit=u:=k2
    have k3:h.sum= []:=k3
    have hne: ¬(h.sum= []∧h.unit= []):=fun e=>kj7 hu (by rw [←k2];exact e.2)
    refine ⟨kv5 ((if_neg hne).trans (kv5 rfl (kv5 ((if_pos k3).trans (by rw [k1,k2];exact em)) (kv5 rfl (by rw [k4];exact kj0 hx))))) (by rw [k5];exact e2),?_⟩
    refine ⟨?_,?_,?_⟩
    ·rw [kx0,if_neg hne,if_pos k3]
    ·rw [kq2,if_neg hne,if_pos k3]
    ·rw [kv3,if_neg hne]
   ·simp only [wq];omega
 ·obtain ⟨e1,l,e2,r5⟩:=consEnd_inv (q:=⟨⟨0,0⟩,[],[],[]⟩) h he hs
  refine ⟨l,fun h k1 k2 k3 k4 k5=>?_,r5⟩
  rw [e1] at k1 k2 k3 k4
  have hz:h.sum= []∧h.unit= []:=⟨k3,k2⟩
  refine ⟨(kv5 (if_pos hz) (by rw [k5];exact e2)).trans (by rw [List.nil_append]),?_⟩
  refine ⟨?_,?_,?_⟩
  ·rw [kx0,if_pos hz,k1];rfl
  ·rw [kq2,if_pos hz,k2]
  ·rw [kv3,if_pos hz,k4]
end Go.Proofs.YtfficindoecpfaaGreatDoor.Pt
namespace Go.Proofs.YtfficindoecpfaaGreatDoor.Pt
open Rs Ic
open Lx (Tok)
theorem ft {h:Rs.Item}:(h.kind=1→flatT h=party h)∧(h.kind=2→flatT h=role h)∧(h.kind=3→flatT h=unit h)∧(h.kind=4→flatT h=weekend h)∧(h.kind=5→flatT h=holiday h)∧(h.kind=6→flatT h=spanDef h)∧(h.kind=7→flatT h=sumDef h)∧(h.kind=8→flatT h=act h)∧(h.kind=9→flatT h=duty h)∧(h.kind=10→flatT h=ban h)∧(h.kind=11→flatT h=option h)∧(h.kind=12→flatT h=watch h)∧(h.kind=14→flatT h=incl h):=by
 refine ⟨?_,?_,?_,?_,?_,?_,?_,?_,?_,?_,?_,?_,?_⟩<;>(intro hk;simp [flatT,hk])
theorem lf {h:Rs.Item}:(h.kind=1→left h= {h with name:= []})∧(h.kind=2→left h= {h with name:= [],of_:= []})∧(h.kind=3→left h=if h.unit= [] then {h with name:= [],word:=0} else {amountLeft h with name:= [],word:=0})∧(h.kind=4→left h= {h with days:=week0})∧(h.kind=5→left h= {h with dates:= []})∧(h.kind=6→left h= {h with name:= [],within:=daysLeft h.within})∧(h.kind=7→left h= {amountLeft h with name:= []})
  ∧(h.kind=8→left h=if h.word=1 then (if h.unit= [] then {h with name:= [],of_:= [],to_:= [],word:=0} else {amountLeft h with name:= [],of_:= [],to_:= [],word:=0}) else {h with name:= [],of_:= [],give:= [],to_:= [],word:=0})
  ∧(h.kind=9→left h=consLeft (circLeft {h with name:= [],of_:= [],act:= [],times:=0,within:=spanLeft h.within,grace:=if h.grace=span0 then h.grace else spanLeft h.grace}))∧(h.kind=10→left h=consLeft (circLeft {h with name:= [],of_:= [],act:= [],within:=spanLeft h.within}))∧(h.kind=11→left h=circLeft {h with name:= [],of_:= [],act:= [],within:=spanLeft h.within})∧(h.kind=12→left h=circLeft {h with name:= [],act:= [],within:=spanLeft h.within})
  ∧(h.kind=13→left h= {h with name:= [],names:= []})∧(h.kind=14→left h= {h with of_:= [],name:= [],names:= []}):=by
 refine ⟨?_,?_,?_,?_,?_,?_,?_,?_,?_,?_,?_,?_,?_,?_⟩<;>(intro hk;simp [left,hk])
theorem lf3n {h:Rs.Item} (hk:h.kind=3) (hu:h.unit≠ []):left h= {amountLeft h with name:= [],word:=0}:=by rw [lf.2.2.1 hk,if_neg hu]
theorem lf3z {h:Rs.Item} (hk:h.kind=3) (hu:h.unit= []):left h= {h with name:= [],word:=0}:=by rw [lf.2.2.1 hk,if_pos hu]
theorem lf8g {h:Rs.Item} (hk:h.kind=8) (hw:h.word≠1):left h= {h with name:= [],of_:= [],give:= [],to_:= [],word:=0}:=by rw [lf.2.2.2.2.2.2.2.1 hk,if_neg hw]
theorem lf8n {h:Rs.Item} (hk:h.kind=8) (hw:h.word=1) (hu:h.unit≠ []):left h= {amountLeft h with name:= [],of_:= [],to_:= [],word:=0}:=by rw [lf.2.2.2.2.2.2.2.1 hk,if_pos hw,if_neg hu]
theorem lf8z {h:Rs.Item} (hk:h.kind=8) (hw:h.word=1) (hu:h.unit= []):left h= {h with name:= [],of_:= [],to_:= [],word:=0}:=by rw [lf.2.2.2.2.2.2.2.1 hk,if_pos hw,if_pos hu]
theorem blank_circ {g:Rs.Item} (c:ClB g) (h1:g.num=⟨0,0⟩) (h2:g.unit= []) (h3:g.sum= []) (h4:g.fin=false) (h5:g.to_= []):blank (circLeft g):=by
 unfold circLeft
 split
 ·next h=>exact ⟨c.name,c.of_,c.act,c.word,c.times,c.within,c.grace,rfl,h.1,h.2,h1,h2,h3,h4,c.give,h5,c.days,c.dates,c.names⟩
 ·exact ⟨c.name,c.of_,c.act,c.word,c.times,c.within,c.grace,rfl,rfl,rfl,h1,h2,h3,h4,c.give,h5,c.days,c.dates,c.names⟩
theorem blank_cons {g:Rs.Item} (c:ClB g) (b:ConsB g):blank (consLeft (circLeft g)):=by
 obtain ⟨b1,b2,b3⟩:=b
 rw [kx0] at b1
 rw [kq2] at b2
 rw [kv3] at b3
 have key: ∀x:Rs.Item,ClB x→x.conds= []→x.by_= []→x.til= []→x.sum=g.sum→x.unit=g.unit→x.num=g.num→x.to_=g.to_→blank (consLeft x):=fun x cx e1 e2 e3 e4 e5 e6 e7=>by
  rw [←e4,←e5,←e6] at b1
  rw [←e4,←e5] at b2
  rw [←e4,←e5,←e7] at b3
  unfold consLeft
  split
  ·next h=>
   rw [if_pos h] at b1 b2 b3
   exact ⟨cx.name,cx.of_,cx.act,cx.word,cx.times,cx.within,cx.grace,e1,e2,e3,b1,h.2,h.1,rfl,cx.give,b3,cx.days,cx.dates,cx.names⟩
  ·next h=>
   rw [if_neg h] at b1 b2
   split
   ·next hs=>exact ⟨cx.name,cx.of_,cx.act,cx.word,cx.times,cx.within,cx.grace,e1,e2,e3,rfl,rfl,hs,rfl,cx.give,rfl,cx.days,cx.dates,cx.names⟩
   ·next hs=>
    rw [if_neg hs] at b1 b2
    exact ⟨cx.name,cx.of_,cx.act,cx.word,cx.times,cx.within,cx.grace,e1,e2,e3,b1,b2,rfl,rfl,cx.give,rfl,cx.days,cx.dates,cx.names⟩
 unfold circLeft
 split
 ·next h=>exact key _ ⟨c.word,c.times,c.within,c.grace,c.give,c.days,c.dates,c.names,c.name,c.of_,c.act⟩ rfl h.1 h.2 rfl rfl rfl rfl
 ·exact key _ ⟨c.word,c.times,c.within,c.grace,c.give,c.days,c.dates,c.names,c.name,c.of_,c.act⟩ rfl rfl rfl rfl rfl rfl rfl
def BodyW (k:Nat) (w:Bytes) (s s1:Pr.St) (f:Pr.Flat):Prop:= ∃l,(∀p,flatT (rsi {f with pos:=p})=some (w::l)∧blank (left (rsi {f with pos:=p})))∧f.kind=k∧f.days.length=7∧Rd s s1 (wl l)
theorem party_w {s s1:Pr.St} {f:Pr.Flat} (h:Pr.party s=(f,s1)) (he:s1.err=0) (hs:OkS s):BodyW 1 [112,97,114,116,121] s s1 f:=by
 obtain ⟨x,t1,hx,r1,h⟩:=kv8 h he hs
 obtain ⟨t2,r2,h⟩:=kv7 h he r1.ok
 have h:(({Pr.flat0 with kind:=1,name:=x}:Pr.Flat),t2)=(f,s1):=h
 injection h with h1 h2
 subst h1 h2
 refine ⟨[x,[59]],fun p=>⟨(ft.1 rfl).trans (kv5 (kv5 rfl (kj0 hx)) rfl),?_⟩,rfl,rfl,(r1.trans r2).le (by simp only [wq];omega)⟩
 rw [lf.1 rfl];unfold blank;repeat' constructor
theorem role_w {s s1:Pr.St} {f:Pr.Flat} (h:Pr.role s=(f,s1)) (he:s1.err=0) (hs:OkS s):BodyW 2 [114,111,108,101] s s1 f:=by
 obtain ⟨x,t1,hx,r1,h⟩:=kv8 h he hs
 obtain ⟨t2,r2,h⟩:=kv7 h he r1.ok
 obtain ⟨o,t3,ho,r3,h⟩:=kv8 h he r2.ok
 obtain ⟨t4,r4,h⟩:=kv7 h he r3.ok
 have h:(({Pr.flat0 with kind:=2,name:=x,of_:=o}:Pr.Flat),t4)=(f,s1):=h
 injection h with h1 h2
 subst h1 h2
 refine ⟨[x,[111,102],o,[59]],fun p=>⟨(ft.2.1 rfl).trans (kv5 (kv5 rfl (kj0 hx)) (kv5 rfl (kv5 (kj0 ho) rfl))),?_⟩,rfl,rfl,(((r1.trans r2).trans r3).trans r4).le (by simp only [wq];omega)⟩
 rw [lf.2.1 rfl];unfold blank;repeat' constructor
instance (n:Bytes) (wd:Nat) (r:Pr.Ratio) (u:Bytes):Stk (Pr.unitEnd n wd r u):=by unfold Pr.unitEnd;infer_instance
instance (n:Bytes) (wd:Nat):Stk (Pr.unitTail n wd):=by unfold Pr.unitTail;infer_instance
theorem unitTail_w {n:Bytes} {wd:Nat} (hn:isName n=true) (hw:wd=1∨wd=2) {s s1:Pr.St} {f:Pr.Flat} (h:Pr.unitTail n wd s=(f,s1)) (he:s1.err=0) (hs:OkS s): ∃l,(∀p,flatT (rsi {f with pos:=p})=some ([117,110,105,116]::n::(if wd=1 then [103,111,111,100,115] else [109,111,110,101,121])::l)∧blank (left (rsi {f with pos:=p})))∧f.kind=3∧f.days.length=7∧Rd s s1 (wl l):=by
 have uw:unitWord (wd:Int)=some [if wd=1 then [103,111,111,100,115] else [109,111,110,101,121]]:=by rcases hw with rfl|rfl<;>rfl
 rcases kj2 h hs with ⟨t1,r1,h⟩|h
 ·have h:Pr.bnd Pr.ratio (fun r=>Pr.bnd Pr.name fun u=>Pr.unitEnd n wd r u) t1=(f,s1):=h
  obtain ⟨q,u,t2,m,hu,em,r2,h⟩:=amount_inv (f:=fun r u=>Pr.unitEnd n wd r u) h he r1.ok
  obtain ⟨t3,r3,h⟩:=kv7 h he r2.ok
  have h:(({Pr.flat0 with kind:=3,name:=n,word:=wd,num:=q,unit:=u}:Pr.Flat),t3)=(f,s1):=h
  injection h with h1 h2
  subst h1 h2
  refine ⟨([61]::m)++ [[59]],fun p=>⟨(ft.2.2.1 rfl).trans (kv5 (kv5 rfl (kj0 hn)) (kv5 uw (kv5 ((if_neg (kj7 hu)).trans (kv5 rfl em)) rfl))),?_⟩,rfl,rfl,((r1.trans r2).trans r3).le (by simp only [wq];omega)⟩
  refine (congrArg blank (lf3n (by rfl) (by exact kj7 hu))).mpr ?_;unfold blank;repeat' constructor
 ·have h:Pr.unitEnd n wd ⟨0,0⟩ [] s=(f,s1):=h
  obtain ⟨t3,r3,h⟩:=kv7 h he hs
  have h:(({Pr.flat0 with kind:=3,name:=n,word:=wd,num:=⟨0,0⟩,unit:= []}:Pr.Flat),t3)=(f,s1):=h
  injection h with h1 h2
  subst h1 h2
  refine ⟨[[59]],fun p=>⟨(ft.2.2.1 rfl).trans (kv5 (kv5 rfl (kj0 hn)) (kv5 uw (kv5 (if_pos rfl) rfl))),?_⟩,rfl,rfl,r3.le (by simp only [wq];omega)⟩
  refine (congrArg blank (lf3z (by rfl) (by rfl))).mpr ?_;unfold blank;repeat' constructor
theorem unit_w {s s1:Pr.St} {f:Pr.Flat} (h:Pr.unit s=(f,s1)) (he:s1.err=0) (hs:OkS s):BodyW 3 [117,110,105,116] s s1 f:=by
 obtain ⟨x,t1,hx,r1,h⟩:=kv8 h he hs
 rcases kj2 h r1.ok with ⟨t2,r2,h⟩|h
 ·obtain ⟨l,e1,e2,e3,r3⟩:=unitTail_w hx (.inr rfl) h he r2.ok
  exact ⟨x:: [109,111,110,101,121]::l,e1,e2,e3,((r1.trans r2).trans r3).le (by simp only [kj3,List.length_cons,List.length_nil];omega)⟩
 ·obtain ⟨t2,r2,h⟩:=kv7 (g:=Pr.unitTail x 1) h he r1.ok
  obtain ⟨l,e1,e2,e3,r3⟩:=unitTail_w hx (.inl rfl) h he r2.ok
  exact ⟨x:: [103,111,111,100,115]::l,e1,e2,e3,((r1.trans r2).trans r3).le (by simp only [kj3,List.length_cons,List.length_nil];omega)⟩
theorem days_set (l:List Bool) (h:l.length=7) (i:Nat) (hi:i<7):(weekDays (l.set i true)).length≤(weekDays l).length+1∧1≤(weekDays (l.set i true)).length∧(weekDays l).length≤(weekDays (l.set i true)).length:=by
 obtain ⟨a,b,c,d,e,f,g,rfl⟩: ∃a b c d e f g,l= [a,b,c,d,e,f,g]:=by
  match l,h with
  | [a,b,c,d,e,f,g],_=>exact ⟨a,b,c,d,e,f,g,rfl⟩
 have key: ∀i:Fin 7,∀a b c d e f g:Bool,(weekDays ([a,b,c,d,e,f,g].set i.val true)).length≤(weekDays [a,b,c,d,e,f,g]).length+1∧1≤(weekDays ([a,b,c,d,e,f,g].set i.val true)).length∧(weekDays [a,b,c,d,e,f,g]).length≤(weekDays ([a,b,c,d,e,f,g].set i.val true)).length:=by decide+kernel
 exact key ⟨i,hi⟩ a b c d e f g
theorem week_inv: ∀(k:Nat) (l:List Bool) {s s1:Pr.St} {m:List Bool},l.length=7→Pr.weekendMore k l s=(m,s1)→s1.err=0→OkS s→m.length=7∧(weekDays l).length≤(weekDays m).length∧(k≠0→1≤(weekDays m).length)∧ ∃j,(weekDays m).length≤(weekDays l).length+j∧Rd s s1 (6*j)
 |0,l,s,s1,m,hl,h,he,hs=>by
  have h:(l,s)=(m,s1):=h
  injection h with h1 h2
  subst h1 h2
  exact ⟨hl,Nat.le_refl _,fun e=>absurd rfl e,0,Nat.le_refl _,Rd.refl hs⟩
 |k+1,l,s,s1,m,hl,h,he,hs=>by
  have ik:=stkW k
  obtain ⟨d,t1,h1,h2,h3⟩:=kv6 h he
  obtain ⟨i,w,rfl,hw,r1⟩:=any_inv _ _ h1 h3 hs
  have hi:i<7:=(List.getElem?_eq_some_iff.1 hw).1
  have hwl:w.length=3:=by
   have key: ∀i:Fin 7,(([[109,111,110],[116,117,101],[119,101,100],[116,104,117],[102,114,105],[115,97,116],[115,117,110]]:List Bytes)[i.val]?).map List.length=some 3:=by decide
   exact Option.some.inj ((congrArg (Option.map List.length) hw).symm.trans (key ⟨i,hi⟩))
  rw [Nat.zero_add] at h2
  have h2:(if t1.err==0 then Pr.bnd (Pr.acc [44]) fun b=>if b then Pr.weekendMore k (l.set i true) else Pr.seq (Pr.expect [[59]]) (Pr.ret (l.set i true)) else Pr.ret l) t1=(m,s1):=h2
  rw [if_pos (by rw [h3];rfl)] at h2
  obtain ⟨d1,d2,d3⟩:=days_set l hl i hi
  have hl2:(l.set i true).length=7:=by rw [List.length_set];exact hl
  rcases kj2 h2 r1.ok with ⟨t2,r2,h⟩|h
  ·obtain ⟨e1,e2,e3,j,e4,r3⟩:=week_inv k (l.set i true) hl2 h he r2.ok
   exact ⟨e1,by omega,fun _=>by omega,j+1,by omega,((r1.trans r2).trans r3).le (by rw [hwl];simp only [List.length_cons,List.length_nil];omega)⟩
  ·obtain ⟨t2,r2,h⟩:=kv7 (g:=Pr.ret (l.set i true)) h he r1.ok
   have h:(l.set i true,t2)=(m,s1):=h
   injection h with h5 h6
   subst h5 h6
   exact ⟨hl2,d3,fun _=>d2,1,by omega,(r1.trans r2).le (by rw [hwl];simp only [List.length_cons,List.length_nil];omega)⟩
theorem week_words: ∀ds:List Nat,(∀i∈ds,i<7)→ ∃w,commas (fun i=>ok [weekNames.getD i []]) false ds=some w∧wl w=6*ds.length
 | [],_=>⟨[],rfl,rfl⟩
 |d::ds,h=>by
  obtain ⟨w,e1,e2⟩:=week_words ds (fun i hi=>h i (List.mem_cons_of_mem _ hi))
  have key: ∀i:Fin 7,(weekNames.getD i.val []).length=3:=by decide
  have hk:=key ⟨d,h d (List.mem_cons_self ..)⟩
  dsimp only at hk
  refine ⟨_,kv5 (if_neg (by decide)) (kv5 rfl e1),?_⟩
  simp only [wl_app,kj3,wl_nil,List.length_cons,List.length_nil,hk,e2];omega
theorem weekend_w {s s1:Pr.St} {f:Pr.Flat} (h:Pr.weekend s=(f,s1)) (he:s1.err=0) (hs:OkS s):BodyW 4 [119,101,101,107,101,110,100] s s1 f:=by
 obtain ⟨m,t1,h1,h2,h3⟩:=kv6 h he
 obtain ⟨e1,_,e3,j,e4,r1⟩:=week_inv _ _ rfl (show Pr.weekendMore (s.rest.length+1) Pr.flat0.days s=(m,t1) from h1) h3 hs
 have h2:(({Pr.flat0 with kind:=4,days:=m}:Pr.Flat),t1)=(f,s1):=h2
 injection h2 with h4 h5
 subst h4 h5
 have h0:(weekDays Pr.flat0.days).length=0:=rfl
 rw [h0] at e4
 have hne:=e3 (by omega)
 cases hd:weekDays m with
 |nil=>rw [hd] at hne;exact absurd hne (by decide)
 |cons d ds=>
  have hlt:= @weekDays_lt m
  rw [hd] at hlt hne e4
  obtain ⟨w,k1,k2⟩:=week_words ds (fun i hi=>hlt i (List.mem_cons_of_mem _ hi))
  have key: ∀i:Fin 7,(weekNames.getD i.val []).length=3:=by decide
  have hk:=key ⟨d,hlt d (List.mem_cons_self ..)⟩
  dsimp only at hk
  rw [List.length_cons] at e4
  have kw:weekT m=some ([]++([weekNames.getD d []]++w)):=by
   unfold weekT
   rw [if_neg (by rw [hd];exact fun e=>by cases e),hd]
   exact kv5 (if_pos rfl) (kv5 rfl k1)
  refine ⟨([]++([weekNames.getD d []]++w))++ [[59]],fun p=>⟨(ft.2.2.2.1 rfl).trans (kv5 rfl (kv5 kw rfl)),?_⟩,rfl,e1,r1.le ?_⟩
  ·rw [lf.2.2.2.1 rfl];unfold blank;repeat' constructor
  ·simp only [List.nil_append,wl_app,kj3,wl_nil,List.length_cons,List.length_nil,hk,k2];omega
theorem holiday_w {s s1:Pr.St} {f:Pr.Flat} (h:Pr.holiday s=(f,s1)) (he:s1.err=0) (hs:OkS s):BodyW 5 [104,111,108,105,100,97,121] s s1 f:=by
 obtain ⟨m,t1,h1,h2,h3⟩:=kv6 h he
 obtain ⟨w,e1,e2,r1⟩:=more_dates _ (show Pr.datesMore (s.rest.length+1) s=(m,t1) from h1) h3 hs
 obtain ⟨t2,r2,h⟩:=kv7 h2 he r1.ok
 have h:(({Pr.flat0 with kind:=5,dates:=m}:Pr.Flat),t2)=(f,s1):=h
 injection h with h4 h5
 subst h4 h5
 have hne:m.map rsc≠ []:=fun e=>e2 (by omega) (List.map_eq_nil_iff.1 e)
 refine ⟨w++ [[59]],fun p=>⟨(ft.2.2.2.2.1 rfl).trans ((if_neg hne).trans (kv5 rfl (kv5 e1 rfl))),?_⟩,rfl,rfl,(r1.trans r2).le (by simp only [wq];omega)⟩
 rw [lf.2.2.2.2.1 rfl];unfold blank;repeat' constructor
theorem spanDef_w {s s1:Pr.St} {f:Pr.Flat} (h:Pr.spanDef s=(f,s1)) (he:s1.err=0) (hs:OkS s):BodyW 6 [115,112,97,110] s s1 f:=by
 obtain ⟨x,t1,hx,r1,h⟩:=kv8 h he hs
 obtain ⟨t2,r2,h⟩:=kv7 h he r1.ok
 obtain ⟨w,t3,h1,h2,h3⟩:=kv6 h he
 obtain ⟨l,e1,e2,r3⟩:=days_inv h1 h3 r2.ok
 obtain ⟨t4,r4,h⟩:=kv7 h2 he r3.ok
 have h:(({Pr.flat0 with kind:=6,name:=x,within:=w}:Pr.Flat),t4)=(f,s1):=h
 injection h with h4 h5
 subst h4 h5
 refine ⟨x:: [61]::(l++ [[59]]),fun p=>⟨(ft.2.2.2.2.2.1 rfl).trans (kv5 (kv5 rfl (kj0 hx)) (kv5 rfl (kv5 e1 rfl))),?_⟩,rfl,rfl,(((r1.trans r2).trans r3).trans r4).le (by simp only [wq];omega)⟩
 rw [lf.2.2.2.2.2.1 rfl]
 have hw:daysLeft (rsp w)=span0:=by unfold daysLeft rsp span0;rw [e2]
 exact ⟨rfl,rfl,rfl,rfl,rfl,hw,rfl,rfl,rfl,rfl,rfl,rfl,rfl,rfl,rfl,rfl,rfl,rfl,rfl⟩
theorem sumDef_w {s s1:Pr.St} {f:Pr.Flat} (h:Pr.sumDef s=(f,s1)) (he:s1.err=0) (hs:OkS s):BodyW 7 [115,117,109] s s1 f:=by
 obtain ⟨x,t1,hx,r1,h⟩:=kv8 h he hs
 obtain ⟨t2,r2,h⟩:=kv7 h he r1.ok
 obtain ⟨q,u,t3,m,hu,em,r3,h⟩:=amount_inv (f:=fun r u=>Pr.seq (Pr.expect [[59]]) (Pr.ret ({Pr.flat0 with kind:=7,name:=x,num:=r,unit:=u}:Pr.Flat))) h he r2.ok
 obtain ⟨t4,r4,h⟩:=kv7 h he r3.ok
 have h:(({Pr.flat0 with kind:=7,name:=x,num:=q,unit:=u}:Pr.Flat),t4)=(f,s1):=h
 injection h with h4 h5
 subst h4 h5
 refine ⟨x:: [61]::(m++ [[59]]),fun p=>⟨(ft.2.2.2.2.2.2.1 rfl).trans (kv5 (kv5 rfl (kj0 hx)) (kv5 rfl (kv5 em rfl))),?_⟩,rfl,rfl,(((r1.trans r2).trans r3).trans r4).le (by simp only [wq];omega)⟩
 rw [lf.2.2.2.2.2.2.1 rfl];unfold blank;repeat' constructor
theorem incl_w {s s1:Pr.St} {f:Pr.Flat} (h:Pr.incl s=(f,s1)) (he:s1.err=0) (hs:OkS s):BodyW 14 [105,110,99,108,117,100,101] s s1 f:=by
 obtain ⟨o,t1,ho,r1,h⟩:=kv8 h he hs
 obtain ⟨t2,r2,h⟩:=kv7 h he r1.ok
 obtain ⟨x,t3,hx,r3,h⟩:=kv8 h he r2.ok
 obtain ⟨ns,t4,h1,h2,h3⟩:=kv6 h he
 obtain ⟨w,e1,r4⟩:=names_inv h1 h3 r3.ok
 obtain ⟨t5,r5,h⟩:=kv7 h2 he r4.ok
 have h:(({Pr.flat0 with kind:=14,name:=x,of_:=o,names:=ns}:Pr.Flat),t5)=(f,s1):=h
 injection h with h4 h5
 subst h4 h5
 refine ⟨o:: [97,115]::x::(w++ [[59]]),fun p=>⟨(ft.2.2.2.2.2.2.2.2.2.2.2.2 rfl).trans (kv5 rfl (kv5 (kj0 ho) (kv5 rfl (kv5 (kj0 hx) (kv5 e1 rfl))))),?_⟩,rfl,rfl,((((r1.trans r2).trans r3).trans r4).trans r5).le (by simp only [wq];omega)⟩
 rw [lf.2.2.2.2.2.2.2.2.2.2.2.2.2 rfl];unfold blank;repeat' constructor
instance (n o:Bytes) (wd:Nat):Stk (Pr.actGive n o wd):=by unfold Pr.actGive;infer_instance
instance (n o:Bytes) (r:Pr.Ratio) (u x:Bytes):Stk (Pr.actEnd n o r u x):=by unfold Pr.actEnd;infer_instance
instance (n o:Bytes) (r:Pr.Ratio) (u:Bytes):Stk (Pr.actTo n o r u):=by unfold Pr.actTo;infer_instance
instance (n x:Bytes):Stk (rest3 n x):=by unfold rest3;infer_instance
instance (n x:Bytes):Stk (rest2 n x):=by unfold rest2;infer_instance
instance (n x:Bytes):Stk (rest1 n x):=by unfold rest1;infer_instance
theorem actOf_T {o:Bytes} (h:isName o=true):actOf (Pr.nature o)=some [o]:=by
 have hn:Pr.nature o=if o=natureT then [] else o:=rfl
 rw [hn]
 by_cases e:o=natureT
 ·rw [if_pos e,e];rfl
 ·rw [if_neg e];unfold actOf;rw [if_neg e,if_neg (kj7 h)];exact kj0 h
theorem actGive_w {n o:Bytes} {wd:Nat} (hn:isName n=true) (ho:isName o=true) (hw:wd=2∨wd=3) {s s1:Pr.St} {f:Pr.Flat} (h:Pr.actGive n o wd s=(f,s1)) (he:s1.err=0) (hs:OkS s): ∃l,(∀p,flatT (rsi {f with pos:=p})=some ([97,99,116]::n:: [98,121]::o::(if wd=2 then [97,115,115,105,103,110,115] else [110,111,118,97,116,101,115])::l)∧blank (left (rsi {f with pos:=p})))∧f.kind=8∧f.days.length=7∧Rd s s1 (wl l):=by
 obtain ⟨g,t1,hg,r1,h⟩:=kv8 h he hs
 obtain ⟨t2,r2,h⟩:=kv7 h he r1.ok
 obtain ⟨t,t3,ht,r3,h⟩:=kv8 h he r2.ok
 obtain ⟨t4,r4,h⟩:=kv7 h he r3.ok
 have h:(({Pr.flat0 with kind:=8,name:=n,of_:=Pr.nature o,word:=wd,give:=g,to_:=t}:Pr.Flat),t4)=(f,s1):=h
 injection h with h4 h5
 subst h4 h5
 have hw2:(wd:Int)=2∨(wd:Int)=3:=by omega
 have aw: ∀x:Rs.Item,x.word=wd→x.give=g→x.to_=t→actWord x=some ((if wd=2 then [97,115,115,105,103,110,115] else [110,111,118,97,116,101,115]):: [g,[116,111],t]):=fun x e1 e2 e3=>by
  unfold actWord
  rw [if_pos (by rw [e1];exact hw2),e1,e2,e3,kj0 hg,kj0 ht]
  rcases hw with rfl|rfl<;>rfl
 refine ⟨[g,[116,111],t,[59]],fun p=>⟨(ft.2.2.2.2.2.2.2.1 rfl).trans (kv5 (kv5 rfl (kj0 hn)) (kv5 rfl (kv5 (actOf_T ho) (kv5 (aw _ rfl rfl rfl) rfl)))),?_⟩,rfl,rfl,(((r1.trans r2).trans r3).trans r4).le (by simp only [wq];omega)⟩
 refine (congrArg blank (lf8g (by rfl) (by show ¬(wd:Int)=1;omega))).mpr ?_;unfold blank;repeat' constructor
theorem actTo_w {n o:Bytes} (hn:isName n=true) (ho:isName o=true) {q:Pr.Ratio} {u:Bytes} {m:List Bytes} (em:(if u= [] then ok [] else cat (ok [[109,111,118,101,115]]) (amount ⟨q.num,q.den⟩ u))=some m) (hz:u= []→q=⟨0,0⟩) {s s1:Pr.St} {f:Pr.Flat} (h:Pr.actTo n o q u s=(f,s1)) (he:s1.err=0) (hs:OkS s):
  ∃l,(∀p,flatT (rsi {f with pos:=p})=some ([97,99,116]::n:: [98,121]::o::(m++l))∧blank (left (rsi {f with pos:=p})))∧f.kind=8∧f.days.length=7∧Rd s s1 (wl l):=by
 have fin: ∀(t:Bytes) (w:List Bytes),(if t= [] then ok [] else cat (ok [[116,111]]) (name t))=some w→ ∀ {s2:Pr.St},Pr.actEnd n o q u t s2=(f,s1)→OkS s2→(∀p,flatT (rsi {f with pos:=p})=some ([97,99,116]::n:: [98,121]::o::(m++(w++ [[59]])))∧blank (left (rsi {f with pos:=p})))∧f.kind=8∧f.days.length=7∧Rd s2 s1 2:=fun t w ew s2 h hs2=>by
  obtain ⟨t4,r4,h⟩:=kv7 h he hs2
  have h:(({Pr.flat0 with kind:=8,name:=n,of_:=Pr.nature o,word:=1,num:=q,unit:=u,to_:=t}:Pr.Flat),t4)=(f,s1):=h
  injection h with h4 h5
  subst h4 h5
  have aw: ∀x:Rs.Item,x.word=1→x.num=⟨q.num,q.den⟩→x.unit=u→x.to_=t→actWord x=some (m++w):=fun x e1 e2 e3 e4=>by
   unfold actWord
   rw [if_neg (by omega),if_pos e1,e2,e3,e4]
   exact kv5 em ew
  refine ⟨fun p=>⟨((ft.2.2.2.2.2.2.2.1 rfl).trans (kv5 (kv5 rfl (kj0 hn)) (kv5 rfl (kv5 (actOf_T ho) (kv5 (aw _ rfl rfl rfl rfl) rfl))))).trans (by show some (([[97,99,116]]++ [n])++([[98,121]]++([o]++((m++w)++ [[59]]))))=_;simp),?_⟩,rfl,rfl,r4⟩
  by_cases hu:u= []
  ·have:=hz hu
   subst hu this
   refine (congrArg blank (lf8z (by rfl) (by rfl) (by rfl))).mpr ?_;unfold blank;repeat' constructor
  ·refine (congrArg blank (lf8n (by rfl) (by rfl) (by exact hu))).mpr ?_;unfold blank;repeat' constructor
 rcases kj2 h hs with ⟨t1,r1,h⟩|h
 ·have h:Pr.bnd Pr.name (fun x=>Pr.actEnd n o q u x) t1=(f,s1):=h
  obtain ⟨t,t2,ht,r2,h⟩:=kv8 h he r1.ok
  obtain ⟨e1,e2,e3,r3⟩:=fin t _ ((if_neg (kj7 ht)).trans (kv5 rfl (kj0 ht))) h r2.ok
  exact ⟨_,e1,e2,e3,((r1.trans r2).trans r3).le (by simp only [wq];omega)⟩
 ·obtain ⟨e1,e2,e3,r3⟩:=fin [] _ (if_pos rfl) h hs
  exact ⟨_,e1,e2,e3,r3.le (by simp only [wq];omega)⟩
theorem act_w {s s1:Pr.St} {f:Pr.Flat} (h:Pr.act s=(f,s1)) (he:s1.err=0) (hs:OkS s):BodyW 8 [97,99,116] s s1 f:=by
 have h:Pr.bnd Pr.name (fun n=>Pr.seq (Pr.expect [[98,121]]) (Pr.bnd Pr.name fun o=>rest1 n o)) s=(f,s1):=h
 obtain ⟨n,t1,hn,r1,h⟩:=kv8 h he hs
 obtain ⟨t2,r2,h⟩:=kv7 h he r1.ok
 obtain ⟨o,t3,ho,r3,h⟩:=kv8 h he r2.ok
 have rr:=(r1.trans r2).trans r3
 rcases kj2 h r3.ok with ⟨t4,r4,h⟩|h
 ·obtain ⟨l,e1,e2,e3,r5⟩:=actGive_w hn ho (.inl rfl) h he r4.ok
  exact ⟨_,e1,e2,e3,((rr.trans r4).trans r5).le (by simp only [kj3,if_pos,List.length_cons,List.length_nil];omega)⟩
 have h:rest2 n o t3=(f,s1):=h
 rcases kj2 h r3.ok with ⟨t4,r4,h⟩|h
 ·obtain ⟨l,e1,e2,e3,r5⟩:=actGive_w hn ho (.inr rfl) h he r4.ok
  exact ⟨n:: [98,121]::o:: [110,111,118,97,116,101,115]::l,e1,e2,e3,((rr.trans r4).trans r5).le (by simp only [kj3,List.length_cons,List.length_nil];omega)⟩
 have h:rest3 n o t3=(f,s1):=h
 rcases kj2 h r3.ok with ⟨t4,r4,h⟩|h
 ·have h:Pr.bnd Pr.ratio (fun r=>Pr.bnd Pr.name fun u=>Pr.actTo n o r u) t4=(f,s1):=h
  obtain ⟨q,u,t5,m,hu,em,r5,h⟩:=amount_inv (f:=fun r u=>Pr.actTo n o r u) h he r4.ok
  obtain ⟨l,e1,e2,e3,r6⟩:=actTo_w hn ho ((if_neg (kj7 hu)).trans (kv5 rfl em)) (fun e=>absurd e (kj7 hu)) h he r5.ok
  exact ⟨_,e1,e2,e3,(((rr.trans r4).trans r5).trans r6).le (by simp only [wq];omega)⟩
 ·obtain ⟨l,e1,e2,e3,r6⟩:=actTo_w (q:=⟨0,0⟩) (u:= []) hn ho (if_pos rfl) (fun _=>rfl) h he r3.ok
  exact ⟨_,e1,e2,e3,(rr.trans r6).le (by simp only [wq];omega)⟩
end Go.Proofs.YtfficindoecpfaaGreatDoor.Pt
namespace Go.Proofs.YtfficindoecpfaaGreatDoor.Pt
open Rs Ic
open Lx (Tok)
instance (n:Bytes) (oa:Bytes×Bytes) (t:Nat) (w g:Pr.Span):Stk (Pr.dutyEnd n oa t w g):=by unfold Pr.dutyEnd;infer_instance
instance (n:Bytes) (oa:Bytes×Bytes) (t:Nat):Stk (Pr.dutyTail n oa t):=by unfold Pr.dutyTail;infer_instance
theorem tail_inv {g:(List Pr.Named×Bytes×Bytes)→(Pr.Price×Bool)→Pr.Flat} {s s1:Pr.St} {f:Pr.Flat} (h:Pr.bnd Pr.circ (fun c=>Pr.bnd Pr.cons fun q=>Pr.seq (Pr.expect [[59]]) (Pr.ret (g c q))) s=(f,s1)) (he:s1.err=0) (hs:OkS s):
  ∃c q l m,f=g c q∧(∀h:Rs.Item,h.conds=c.1.map rsn→h.by_=c.2.1→h.til=c.2.2→circ h=some l)∧(∀h:Rs.Item,h.num=⟨q.1.num.num,q.1.num.den⟩→h.unit=q.1.unit→h.sum=q.1.sum→h.to_=q.1.to_→h.fin=q.2→cons h=some m∧ConsB h)∧Rd s s1 (wl l+wl m+2):=by
 obtain ⟨c,t1,h1,h2,h3⟩:=kv6 h he
 obtain ⟨l,e1,r1⟩:=circ_inv h1 h3 hs
 obtain ⟨q,t2,h4,h5,h6⟩:=kv6 h2 he
 obtain ⟨m,e2,r2⟩:=cons_inv h4 h6 r1.ok
 obtain ⟨t3,r3,h⟩:=kv7 h5 he r2.ok
 have h:(g c q,t3)=(f,s1):=h
 injection h with h7 h8
 subst h7 h8
 exact ⟨c,q,l,m,rfl,e1,e2,(r1.trans r2).trans r3⟩
theorem tail0_inv {g:(List Pr.Named×Bytes×Bytes)→Pr.Flat} {s s1:Pr.St} {f:Pr.Flat} (h:Pr.bnd Pr.circ (fun c=>Pr.seq (Pr.expect [[59]]) (Pr.ret (g c))) s=(f,s1)) (he:s1.err=0) (hs:OkS s):
  ∃c l,f=g c∧(∀h:Rs.Item,h.conds=c.1.map rsn→h.by_=c.2.1→h.til=c.2.2→circ h=some l)∧Rd s s1 (wl l+2):=by
 obtain ⟨c,t1,h1,h2,h3⟩:=kv6 h he
 obtain ⟨l,e1,r1⟩:=circ_inv h1 h3 hs
 obtain ⟨t3,r3,h⟩:=kv7 h2 he r1.ok
 have h:(g c,t3)=(f,s1):=h
 injection h with h7 h8
 subst h7 h8
 exact ⟨c,l,rfl,e1,r1.trans r3⟩
theorem dutyEnd_w {n:Bytes} {oa:Bytes×Bytes} {t:Nat} {w g:Pr.Span} {b tw l1 l2:List Bytes} (hn:isName n=true) (hb: ∀h:Rs.Item,h.of_=oa.1→h.act=oa.2→bearer h=some b) (ht:times (t:Int)=some tw) (hw:span (rsp w)=some l1) (hwl:spanLeft (rsp w)=span0) (hg:grace (rsp g)=some l2) (hgl:(if rsp g=span0 then rsp g else spanLeft (rsp g))=span0)
  {s s1:Pr.St} {f:Pr.Flat} (h:Pr.dutyEnd n oa t w g s=(f,s1)) (he:s1.err=0) (hs:OkS s): ∃l,(∀p,flatT (rsi {f with pos:=p})=some ([100,117,116,121]::n::(b++(tw++([[119,105,116,104,105,110]]++(l1++(l2++l))))))∧blank (left (rsi {f with pos:=p})))∧f.kind=9∧f.days.length=7∧Rd s s1 (wl l):=by
 obtain ⟨c,q,l,m,rfl,e1,e2,r⟩:=tail_inv h he hs
 refine ⟨l++(m++ [[59]]),fun p=>⟨?_,?_⟩,rfl,rfl,r.le (by simp only [wq];omega)⟩
 ·exact (ft.2.2.2.2.2.2.2.2.1 rfl).trans (kv5 (kv5 rfl (kj0 hn)) (kv5 (hb _ rfl rfl) (kv5 ht (kv5 rfl (kv5 hw (kv5 hg (kv5 (e1 _ rfl rfl rfl) (kv5 (e2 _ rfl rfl rfl rfl rfl).1 rfl))))))))
 ·rw [lf.2.2.2.2.2.2.2.2.1 rfl]
  refine blank_cons ⟨rfl,rfl,hwl,hgl,rfl,rfl,rfl,rfl,rfl,rfl,rfl⟩ ?_
  have:=(e2 (rsi {(({Pr.flat0 with kind:=9,name:=n,of_:=oa.1,act:=oa.2,times:=t,within:=w,grace:=g,conds:=c.1,by_:=c.2.1,til:=c.2.2,num:=q.1.num,unit:=q.1.unit,sum:=q.1.sum,to_:=q.1.to_,fin:=q.2}:Pr.Flat)) with pos:=p}) rfl rfl rfl rfl rfl).2
  exact consB_of this rfl rfl rfl rfl
theorem dutyTail_w {n:Bytes} {oa:Bytes×Bytes} {t:Nat} {b tw:List Bytes} (hn:isName n=true) (hb: ∀h:Rs.Item,h.of_=oa.1→h.act=oa.2→bearer h=some b) (ht:times (t:Int)=some tw)
  {s s1:Pr.St} {f:Pr.Flat} (h:Pr.dutyTail n oa t s=(f,s1)) (he:s1.err=0) (hs:OkS s): ∃l,(∀p,flatT (rsi {f with pos:=p})=some ([100,117,116,121]::n::(b++(tw++l)))∧blank (left (rsi {f with pos:=p})))∧f.kind=9∧f.days.length=7∧Rd s s1 (wl l):=by
 obtain ⟨t1,r1,h⟩:=kv7 h he hs
 obtain ⟨w,t2,h1,h2,h3⟩:=kv6 h he
 obtain ⟨l1,e1,e2,r2⟩:=span_inv h1 h3 r1.ok
 rcases kj2 h2 r2.ok with ⟨t3,r3,h⟩|h
 ·have h:Pr.bnd Pr.span (fun gr=>Pr.dutyEnd n oa t w gr) t3=(f,s1):=h
  obtain ⟨g,t4,h4,h5,h6⟩:=kv6 h he
  obtain ⟨l2,e3,e4,r4⟩:=span_inv h4 h6 r3.ok
  have rr:=((r1.trans r2).trans r3).trans r4
  by_cases hg:rsp g=span0
  ·obtain ⟨l,k1,k2,k3,r5⟩:=dutyEnd_w (l2:= []) hn hb ht e1 e2 (if_pos hg) (by rw [if_pos hg];exact hg) h5 he r4.ok
   exact ⟨_,k1,k2,k3,(rr.trans r5).le (by simp only [wq];omega)⟩
  ·obtain ⟨l,k1,k2,k3,r5⟩:=dutyEnd_w (l2:= [[103,114,97,99,101]]++l2) hn hb ht e1 e2 ((if_neg hg).trans (kv5 rfl e3)) (by rw [if_neg hg];exact e4) h5 he r4.ok
   exact ⟨_,k1,k2,k3,(rr.trans r5).le (by simp only [wq];omega)⟩
 ·have h:Pr.dutyEnd n oa t w ⟨0,false,[]⟩ t2=(f,s1):=h
  obtain ⟨l,k1,k2,k3,r5⟩:=dutyEnd_w (g:=⟨0,false,[]⟩) (l2:= []) hn hb ht e1 e2 (if_pos rfl) (if_pos rfl) h he r2.ok
  exact ⟨_,k1,k2,k3,((r1.trans r2).trans r5).le (by simp only [wq];omega)⟩
theorem duty_w {s s1:Pr.St} {f:Pr.Flat} (h:Pr.duty s=(f,s1)) (he:s1.err=0) (hs:OkS s):BodyW 9 [100,117,116,121] s s1 f:=by
 have i1: ∀(n:Bytes) (oa:Bytes×Bytes),Stk (Pr.bnd (Pr.opt 2) fun t=>match t with|some t=>Pr.seq (Pr.expect [[116,105,109,101,115]]) (Pr.dutyTail n oa t.n)|none=>Pr.dutyTail n oa 1):=fun n oa=>stkO 2 _ inferInstance (fun t=>(inferInstance:Stk (Pr.seq (Pr.expect [[116,105,109,101,115]]) (Pr.dutyTail n oa t.n))))
 obtain ⟨n,t1,hn,r1,h⟩:=kv8 h he hs
 obtain ⟨oa,t2,h1,h2,h3⟩:=kv6 h he
 obtain ⟨b,eb,r2⟩:=bearer_inv h1 h3 r1.ok
 have rr:=r1.trans r2
 rcases opt_cases 2 t2 with ⟨t,r,e,hk,ha⟩|ha
 ·have h2:Pr.seq (Pr.expect [[116,105,109,101,115]]) (Pr.dutyTail n oa t.n) {t2 with rest:=r}=(f,s1):=by
   rw [←h2];exact (Pr.jq7 (f:=fun o=>match o with|some t=>Pr.seq (Pr.expect [[116,105,109,101,115]]) (Pr.dutyTail n oa t.n)|none=>Pr.dutyTail n oa 1) ha).symm
  have r3:=Rd.tok r2.ok e
  obtain ⟨t3,r4,h⟩:=kv7 h2 he r3.ok
  obtain ⟨k4,k5⟩:=(r2.ok.all t (by rw [e];exact List.mem_cons_self ..)).nu hk
  have hd:(dec (t.n:Int)).length≤t.text.length:=by rw [dec_nat (by omega),Int.toNat_natCast];exact k5
  by_cases h1:(t.n:Int)=1
  ·obtain ⟨l,e1,e2,e3,r5⟩:=dutyTail_w (tw:= []) hn eb (if_pos h1) h he r4.ok
   exact ⟨_,e1,e2,e3,(((rr.trans r3).trans r4).trans r5).le (by simp only [wq];omega)⟩
  ·have hnum:number (t.n:Int)=some [dec (t.n:Int)]:=if_pos (by omega)
   obtain ⟨l,e1,e2,e3,r5⟩:=dutyTail_w (tw:= [dec (t.n:Int)]++ [[116,105,109,101,115]]) hn eb ((if_neg h1).trans (kv5 hnum rfl)) h he r4.ok
   exact ⟨_,e1,e2,e3,(((rr.trans r3).trans r4).trans r5).le (by simp only [wq];omega)⟩
 ·have h2:Pr.dutyTail n oa 1 t2=(f,s1):=by
   rw [←h2];exact (Pr.jq7 (f:=fun o=>match o with|some t=>Pr.seq (Pr.expect [[116,105,109,101,115]]) (Pr.dutyTail n oa t.n)|none=>Pr.dutyTail n oa 1) ha).symm
  obtain ⟨l,e1,e2,e3,r5⟩:=dutyTail_w (tw:= []) hn eb (if_pos rfl) h2 he r2.ok
  exact ⟨_,e1,e2,e3,(rr.trans r5).le (by simp only [wq];omega)⟩
theorem ban_w {s s1:Pr.St} {f:Pr.Flat} (h:Pr.ban s=(f,s1)) (he:s1.err=0) (hs:OkS s):BodyW 10 [98,97,110] s s1 f:=by
 obtain ⟨n,t1,hn,r1,h⟩:=kv8 h he hs
 obtain ⟨oa,t2,h1,h2,h3⟩:=kv6 h he
 obtain ⟨b,eb,r2⟩:=bearer_inv h1 h3 r1.ok
 obtain ⟨t3,r3,h⟩:=kv7 h2 he r2.ok
 obtain ⟨w,t4,h4,h5,h6⟩:=kv6 h he
 obtain ⟨l1,k1,k2,r4⟩:=span_inv h4 h6 r3.ok
 obtain ⟨c,q,l,m,rfl,e1,e2,r5⟩:=tail_inv (g:=fun c q=> {Pr.flat0 with kind:=10,name:=n,of_:=oa.1,act:=oa.2,within:=w,conds:=c.1,by_:=c.2.1,til:=c.2.2,num:=q.1.num,unit:=q.1.unit,sum:=q.1.sum,to_:=q.1.to_,fin:=q.2}) h5 he r4.ok
 refine ⟨n::(b++([[102,111,114]]++(l1++(l++(m++ [[59]]))))),fun p=>⟨?_,?_⟩,rfl,rfl,((((r1.trans r2).trans r3).trans r4).trans r5).le (by simp only [wq];omega)⟩
 ·exact (ft.2.2.2.2.2.2.2.2.2.1 rfl).trans (kv5 (kv5 rfl (kj0 hn)) (kv5 (eb _ rfl rfl) (kv5 rfl (kv5 k1 (kv5 (e1 _ rfl rfl rfl) (kv5 (e2 _ rfl rfl rfl rfl rfl).1 rfl))))))
 ·rw [lf.2.2.2.2.2.2.2.2.2.1 rfl]
  refine blank_cons ⟨rfl,rfl,k2,rfl,rfl,rfl,rfl,rfl,rfl,rfl,rfl⟩ ?_
  have:=(e2 (rsi {(({Pr.flat0 with kind:=10,name:=n,of_:=oa.1,act:=oa.2,within:=w,conds:=c.1,by_:=c.2.1,til:=c.2.2,num:=q.1.num,unit:=q.1.unit,sum:=q.1.sum,to_:=q.1.to_,fin:=q.2}:Pr.Flat)) with pos:=p}) rfl rfl rfl rfl rfl).2
  exact consB_of this rfl rfl rfl rfl
theorem option_w {s s1:Pr.St} {f:Pr.Flat} (h:Pr.option s=(f,s1)) (he:s1.err=0) (hs:OkS s):BodyW 11 [111,112,116,105,111,110] s s1 f:=by
 obtain ⟨n,t1,hn,r1,h⟩:=kv8 h he hs
 obtain ⟨oa,t2,h1,h2,h3⟩:=kv6 h he
 obtain ⟨b,eb,r2⟩:=bearer_inv h1 h3 r1.ok
 obtain ⟨t3,r3,h⟩:=kv7 h2 he r2.ok
 obtain ⟨w,t4,h4,h5,h6⟩:=kv6 h he
 obtain ⟨l1,k1,k2,r4⟩:=span_inv h4 h6 r3.ok
 obtain ⟨c,l,rfl,e1,r5⟩:=tail0_inv (g:=fun c=> {Pr.flat0 with kind:=11,name:=n,of_:=oa.1,act:=oa.2,within:=w,conds:=c.1,by_:=c.2.1,til:=c.2.2}) h5 he r4.ok
 refine ⟨n::(b++([[119,105,116,104,105,110]]++(l1++(l++ [[59]])))),fun p=>⟨?_,?_⟩,rfl,rfl,((((r1.trans r2).trans r3).trans r4).trans r5).le (by simp only [wq];omega)⟩
 ·exact (ft.2.2.2.2.2.2.2.2.2.2.1 rfl).trans (kv5 (kv5 rfl (kj0 hn)) (kv5 (eb _ rfl rfl) (kv5 rfl (kv5 k1 (kv5 (e1 _ rfl rfl rfl) rfl)))))
 ·rw [lf.2.2.2.2.2.2.2.2.2.2.1 rfl]
  exact blank_circ ⟨rfl,rfl,k2,rfl,rfl,rfl,rfl,rfl,rfl,rfl,rfl⟩ rfl rfl rfl rfl rfl
theorem watch_w {s s1:Pr.St} {f:Pr.Flat} (h:Pr.watch s=(f,s1)) (he:s1.err=0) (hs:OkS s):BodyW 12 [119,97,116,99,104] s s1 f:=by
 obtain ⟨n,t1,hn,r1,h⟩:=kv8 h he hs
 obtain ⟨t2,r2,h⟩:=kv7 h he r1.ok
 obtain ⟨a,t3,ha,r3,h⟩:=kv8 h he r2.ok
 obtain ⟨t4,r4,h⟩:=kv7 h he r3.ok
 obtain ⟨w,t5,h4,h5,h6⟩:=kv6 h he
 obtain ⟨l1,k1,k2,r5⟩:=span_inv h4 h6 r4.ok
 obtain ⟨c,l,rfl,e1,r6⟩:=tail0_inv (g:=fun c=> {Pr.flat0 with kind:=12,name:=n,act:=a,within:=w,conds:=c.1,by_:=c.2.1,til:=c.2.2}) h5 he r5.ok
 refine ⟨n::([[58]]++([a]++([[119,105,116,104,105,110]]++(l1++(l++ [[59]]))))),fun p=>⟨?_,?_⟩,rfl,rfl,(((((r1.trans r2).trans r3).trans r4).trans r5).trans r6).le (by simp only [wq];omega)⟩
 ·exact (ft.2.2.2.2.2.2.2.2.2.2.2.1 rfl).trans (kv5 (kv5 rfl (kj0 hn)) (kv5 rfl (kv5 (kj0 ha) (kv5 rfl (kv5 k1 (kv5 (e1 _ rfl rfl rfl) rfl))))))
 ·rw [lf.2.2.2.2.2.2.2.2.2.2.2.1 rfl]
  exact blank_circ ⟨rfl,rfl,k2,rfl,rfl,rfl,rfl,rfl,rfl,rfl,rfl⟩ rfl rfl rfl rfl rfl
def kw (k:Nat):Bytes:=match k with
 |1=> [112,97,114,116,121] |2=> [114,111,108,101] |3=> [117,110,105,116] |4=> [119,101,101,107,101,110,100] |5=> [104,111,108,105,100,97,121] |6=> [115,112,97,110] |7=> [115,117,109] |8=> [97,99,116] |9=> [100,117,116,121] |10=> [98,97,110] |11=> [111,112,116,105,111,110] |12=> [119,97,116,99,104] |13=> [116,101,109,112,108,97,116,101] |_=> [105,110,99,108,117,100,101]
theorem look_mem {ws:List (Bytes×Nat)} {x:Bytes} {k:Nat} (h:ws.lookup x=some k):(x,k)∈ws:=by
 induction ws with
 |nil=>cases h
 |cons p ws ih=>
  obtain ⟨a,b⟩:=p
  rw [List.lookup_cons] at h
  cases hx:x==a with
  |true=>
   rw [hx] at h
   injection h with h
   have:x=a:=by simpa using hx
   subst h this
   exact List.mem_cons_self ..
  |false=>rw [hx] at h;exact List.mem_cons_of_mem _ (ih h)
theorem start_inv {ws:List (Bytes×Nat)} {s s1:Pr.St} {o:Option (Nat×Nat)} (h:Pr.start ws s=(o,s1)) (he:s1.err=0) (hs:OkS s) (hi:s.items≤600): ∃k p,o=some (k,p)∧ ∃x,(x,k)∈ws∧OkS s1∧s1.items=s.items+1∧s1.items≤600∧s1.rest.length+1=s.rest.length∧(x.length+1)+wt s1.rest≤wt s.rest:=by
 unfold Pr.start at h
 have bad: ∀ {s2:Pr.St},((none:Option (Nat×Nat)),(Pr.fail s).2)=(o,s2)→s2.err=0→False:=fun h he=>by
  injection h with _ h
  subst h
  exact fail_err s hs.err he
 split at h
 ·next hk=>
  cases hr:s.rest with
  |nil=>unfold Pr.isK at hk;rw [hr] at hk;simp at hk
  |cons t r=>
   rw [hr] at h
   dsimp only at h
   cases hl:ws.lookup t.text with
   |none=>rw [hl] at h;exact (bad h he).elim
   |some k=>
    rw [hl] at h
    dsimp only at h
    by_cases h6:s.items=600
    ·rw [if_pos h6] at h
     injection h with _ h
     subst h
     exact absurd (show (3:Nat)=0 from he) (by decide)
    ·rw [if_neg h6] at h
     injection h with h1 h2
     subst h1 h2
     refine ⟨k,t.pos,rfl,t.text,look_mem hl,⟨fun u hu=>hs.all u (by rw [hr];exact List.mem_cons_of_mem _ hu),rfl⟩,rfl,?_,rfl,?_⟩
     ·show s.items+1≤600;omega
     ·rw [wt_cons];exact Nat.le_refl _
 ·exact (bad h he).elim
theorem body_w {k:Nat} (hk:k≠13) (hk2:1≤k∧k≤14) {s s1:Pr.St} {f:Pr.Flat} (h:Pr.body k s=(f,s1)) (he:s1.err=0) (hs:OkS s):BodyW k (kw k) s s1 f:=by
 obtain ⟨h1,h2⟩:=hk2
 match k,hk,h1,h2 with
 |1,_,_,_=>exact party_w h he hs
 |2,_,_,_=>exact role_w h he hs
 |3,_,_,_=>exact unit_w h he hs
 |4,_,_,_=>exact weekend_w h he hs
 |5,_,_,_=>exact holiday_w h he hs
 |6,_,_,_=>exact spanDef_w h he hs
 |7,_,_,_=>exact sumDef_w h he hs
 |8,_,_,_=>exact act_w h he hs
 |9,_,_,_=>exact duty_w h he hs
 |10,_,_,_=>exact ban_w h he hs
 |11,_,_,_=>exact option_w h he hs
 |12,_,_,_=>exact watch_w h he hs
 |13,h13,_,_=>exact absurd rfl h13
 |14,_,_,_=>exact incl_w h he hs
theorem body_stk (k:Nat):Stk (Pr.body k):=by
 have i1: ∀(n:Bytes) (oa:Bytes×Bytes),Stk (Pr.bnd (Pr.opt 2) fun t=>match t with|some t=>Pr.seq (Pr.expect [[116,105,109,101,115]]) (Pr.dutyTail n oa t.n)|none=>Pr.dutyTail n oa 1):=fun n oa=>stkO 2 _ inferInstance (fun t=>(inferInstance:Stk (Pr.seq (Pr.expect [[116,105,109,101,115]]) (Pr.dutyTail n oa t.n))))
 unfold Pr.body
 split
 ·unfold Pr.party;infer_instance
 ·unfold Pr.role;infer_instance
 ·unfold Pr.unit;infer_instance
 ·unfold Pr.weekend;infer_instance
 ·unfold Pr.holiday;infer_instance
 ·unfold Pr.spanDef;infer_instance
 ·unfold Pr.sumDef;infer_instance
 ·exact (inferInstance:Stk (Pr.bnd Pr.name fun n=>Pr.seq (Pr.expect [[98,121]]) (Pr.bnd Pr.name fun o=>rest1 n o)))
 ·unfold Pr.duty;infer_instance
 ·unfold Pr.ban;infer_instance
 ·unfold Pr.option;infer_instance
 ·unfold Pr.watch;infer_instance
 ·unfold Pr.incl;infer_instance
end Go.Proofs.YtfficindoecpfaaGreatDoor.Pt
namespace Go.Proofs.YtfficindoecpfaaGreatDoor.Pt
open Rs Ic
open Lx (Tok)
instance (k:Nat):Stk (Pr.body k):=body_stk k
instance (ws:List (Bytes×Nat)):Stk (Pr.start ws):=⟨fun s h=>by
 have:Pr.isK 1 s=false:=by unfold Pr.isK;simp [h]
 unfold Pr.start
 rw [this,if_neg (by decide)]
 exact Stk.stick (m:=Pr.fail) s h⟩
theorem stkI {β:Type} (ws:List (Bytes×Nat)) (f:Option (Nat×Nat)→Pr.M β) (h0:Stk (f none)) (h1: ∀t,Stk (f (some t))):Stk (Pr.bnd (Pr.start ws) f):=by
 have: ∀o,Stk (f o):=fun o=>by cases o;exact h0;exact h1 _
 infer_instance
instance:Stk Pr.inner:=stkI _ _ inferInstance (fun t=>(inferInstance:Stk (Pr.bnd (Pr.body t.1) fun f=>Pr.ret {f with pos:=t.2})))
instance stkT: ∀k,Stk (Pr.tmplMore k)
 |0=>(inferInstance:Stk (Pr.ret []))
 |k+1=>by have:=stkT k;show Stk (Pr.bnd Pr.good fun g=>if g then Pr.bnd (Pr.acc [125]) fun b=>if b then Pr.ret [] else Pr.bnd Pr.inner fun x=>Pr.bnd (Pr.tmplMore k) fun l=>Pr.ret (x::l) else Pr.ret []);infer_instance
instance:Stk Pr.template:=by unfold Pr.template;infer_instance
instance:Stk Pr.item:=stkI _ _ inferInstance (fun t=>(inferInstance:Stk (if t.1=13 then Pr.bnd Pr.template fun x=>Pr.ret (⟨{x.flat with pos:=t.2},x.inner⟩:Pr.Item) else Pr.bnd (Pr.body t.1) fun f=>Pr.ret (⟨{f with pos:=t.2},[]⟩:Pr.Item))))
instance stkM: ∀k,Stk (Pr.itemsMore k)
 |0=>(inferInstance:Stk (Pr.ret []))
 |k+1=>by have:=stkM k;show Stk (Pr.bnd Pr.more fun g=>if g then Pr.bnd Pr.item fun x=>Pr.bnd (Pr.itemsMore k) fun l=>Pr.ret (x::l) else Pr.ret []);infer_instance
def lw (ls:List Line):Nat:=wl (ls.flatMap fun l:Line=>l.2)
theorem lw_app (a b:List Line):lw (a++b)=lw a+lw b:=by unfold lw;rw [List.flatMap_append,wl_app]
theorem lw_one (b:Bool) (l:List Bytes):lw [(b,l)]=wl l:=by unfold lw;simp
structure Ri (s s1:Pr.St) (k n:Nat):Prop where
 ok:OkS s1
 items:s1.items=s.items+n
 max:s1.items≤600
 wt:k+wt s1.rest≤wt s.rest
theorem inner_w {s s1:Pr.St} {f:Pr.Flat} (h:Pr.inner s=(f,s1)) (he:s1.err=0) (hs:OkS s) (hi:s.items≤600): ∃l,innerL (rsf f)=some [(true,l)]∧f.days.length=7∧Ri s s1 (wl l) 1∧s1.rest.length<s.rest.length:=by
 have i1: ∀o:Option (Nat×Nat),Stk (match o with|none=>Pr.ret Pr.flat0|some kp=>Pr.bnd (Pr.body kp.1) fun f=>Pr.ret {f with pos:=kp.2}):=fun o=>by
  cases o with
  |none=>exact (inferInstance:Stk (Pr.ret Pr.flat0))
  |some t=>exact (inferInstance:Stk (Pr.bnd (Pr.body t.1) fun f=>Pr.ret {f with pos:=t.2}))
 obtain ⟨o,t1,h1,h2,h3⟩:=kv6 h he
 obtain ⟨k,p,rfl,x,hm,g1,g2,g3,g4,g5⟩:=start_inv h1 h3 hs hi
 have key: ∀p∈Pr.innerWords,p.1=kw p.2∧p.2≠13∧(1≤p.2∧p.2≤14)∧isInner (p.2:Int)=true:=by decide
 obtain ⟨k1,k2,k3,k4⟩:=key _ hm
 dsimp only at k1 k2 k3 k4
 have h2:Pr.bnd (Pr.body k) (fun f=>Pr.ret {f with pos:=p}) t1=(f,s1):=h2
 obtain ⟨f0,t2,h4,h5,h6⟩:=kv6 h2 he
 obtain ⟨l,e1,e2,e3,r⟩:=body_w k2 k3 h4 h6 g1
 have h5:(({f0 with pos:=p}:Pr.Flat),t2)=(f,s1):=h5
 injection h5 with h7 h8
 subst h7 h8
 obtain ⟨m1,m2⟩:=e1 p
 refine ⟨kw k::l,?_,e3,⟨r.ok,by rw [r.items,g2],by rw [r.items];exact g3,?_⟩,by have:=r.len;omega⟩
 ·unfold innerL
  have hin:isInner (rsf {f0 with pos:=p}).h.kind=true:=by show isInner (f0.kind:Int)=true;rw [e2];exact k4
  rw [if_pos hin]
  unfold flatL
  have m1:flatT (rsf {f0 with pos:=p}).h=some (kw k::l):=m1
  rw [m1]
  exact if_pos ⟨m2,rfl⟩
 ·have:=r.wt
  rw [kj3,←k1]
  omega
theorem tmpl_w: ∀(k:Nat) {s s1:Pr.St} {fs:List Pr.Flat},s.rest.length<k→Pr.tmplMore k s=(fs,s1)→s1.err=0→OkS s→s.items≤600→ ∃ls,each innerL (fs.map rsf)=some ls∧(∀f∈fs,f.days.length=7)∧ls.length=fs.length∧Ri s s1 (lw ls+2) fs.length∧s1.rest.length<s.rest.length
 |0,s,s1,fs,hk,_,_,_,_=>absurd hk (Nat.not_lt_zero _)
 |k+1,s,s1,fs,hk,h,he,hs,hi=>by
  have h:(if s.err==0 then Pr.bnd (Pr.acc [125]) fun b=>if b then Pr.ret [] else Pr.bnd Pr.inner fun x=>Pr.bnd (Pr.tmplMore k) fun l=>Pr.ret (x::l) else Pr.ret []) s=(fs,s1):=h
  rw [if_pos (by rw [hs.err];rfl)] at h
  rcases acc_cases [125] s hs with ⟨t,r,e,ht,ha⟩|ha
  ·have h2:=(Pr.jq7 (f:=fun b=>if b=true then Pr.ret [] else Pr.bnd Pr.inner fun x=>Pr.bnd (Pr.tmplMore k) fun l=>Pr.ret (x::l)) ha).symm.trans h
   have h2:(([]:List Pr.Flat),({s with rest:=r}:Pr.St))=(fs,s1):=h2
   injection h2 with h3 h4
   have rt:=Rd.tok hs e
   subst h3 h4
   refine ⟨[],rfl,fun f hf=>(by cases hf),rfl,⟨rt.ok,rfl,hi,?_⟩,(by rw [e];exact Nat.lt_succ_self _)⟩
   have:=rt.wt
   rw [ht] at this
   have h0:lw []=0:=rfl
   rw [h0]
   simp only [List.length_cons,List.length_nil] at this
   omega
  ·have h2:=(Pr.jq7 (f:=fun b=>if b=true then Pr.ret [] else Pr.bnd Pr.inner fun x=>Pr.bnd (Pr.tmplMore k) fun l=>Pr.ret (x::l)) ha).symm.trans h
   have h2:Pr.bnd Pr.inner (fun x=>Pr.bnd (Pr.tmplMore k) fun l=>Pr.ret (x::l)) s=(fs,s1):=h2
   obtain ⟨f,t1,h3,h4,h5⟩:=kv6 h2 he
   obtain ⟨l,e1,e2,r1,n1⟩:=inner_w h3 h5 hs hi
   obtain ⟨gs,t2,h6,h7,h8⟩:=kv6 h4 he
   obtain ⟨ls,e3,e4,e5,r2,n2⟩:=tmpl_w k (by omega) h6 h8 r1.ok r1.max
   have h7:(f::gs,t2)=(fs,s1):=h7
   injection h7 with h9 h10
   subst h9 h10
   refine ⟨[(true,l)]++ls,?_,fun x hx=>?_,by rw [List.length_append,e5];simp only [List.length_cons,List.length_nil];omega,⟨r2.ok,?_,r2.max,?_⟩,by omega⟩
   ·show catL (innerL (rsf f)) (each innerL (gs.map rsf))=_
    rw [e1,e3];rfl
   ·rcases List.mem_cons.1 hx with rfl|hx
    ·exact e2
    ·exact e4 x hx
   ·rw [r2.items,r1.items,List.length_cons];omega
   ·have:=r1.wt;have:=r2.wt
    rw [lw_app,lw_one];omega
theorem tmpl_item {n:Bytes} {ns m:List Bytes} {fs:List Pr.Flat} {ls:List Line} (hn:isName n=true) (hm:namesT ns=some m) (hl:each innerL (fs.map rsf)=some ls) (p:Nat):
  itemL (rst ⟨{Pr.flat0 with kind:=13,name:=n,pos:=p,names:=ns},fs⟩)=some ([(false,[116,101,109,112,108,97,116,101]::n::(m++ [[123]]))]++ls++ [(false,[[125]])]):=by
 have e1:head (rst ⟨{Pr.flat0 with kind:=13,name:=n,pos:=p,names:=ns},fs⟩).h=some ([116,101,109,112,108,97,116,101]::n::(m++ [[123]])):=kv5 (kv5 rfl (kj0 hn)) (kv5 hm rfl)
 have e2:blank (left (rst ⟨{Pr.flat0 with kind:=13,name:=n,pos:=p,names:=ns},fs⟩).h):=by
  refine (congrArg blank (lf.2.2.2.2.2.2.2.2.2.2.2.2.1 (by rfl))).mpr ?_
  unfold blank;repeat' constructor
 unfold itemL
 rw [if_pos (by rfl),e1]
 dsimp only
 have e3:each innerL (rst ⟨{Pr.flat0 with kind:=13,name:=n,pos:=p,names:=ns},fs⟩).l=some ls:=hl
 rw [e3]
 exact if_pos e2
theorem item_w {s s1:Pr.St} {x:Pr.Item} (h:Pr.item s=(x,s1)) (he:s1.err=0) (hs:OkS s) (hi:s.items≤600): ∃ls,itemL (rst x)=some ls∧H7 (rst x)∧ls.length≤2+x.inner.length∧Ri s s1 (lw ls) (1+x.inner.length)∧s1.rest.length<s.rest.length:=by
 have i2: ∀t:Nat×Nat,Stk (if t.1=13 then Pr.bnd Pr.template fun x=>Pr.ret (⟨{x.flat with pos:=t.2},x.inner⟩:Pr.Item) else Pr.bnd (Pr.body t.1) fun f=>Pr.ret (⟨{f with pos:=t.2},[]⟩:Pr.Item)):=fun t=>inferInstance
 have i1: ∀o:Option (Nat×Nat),Stk (match o with|none=>Pr.ret (⟨Pr.flat0,[]⟩:Pr.Item)|some kp=>if kp.1=13 then Pr.bnd Pr.template fun x=>Pr.ret ⟨{x.flat with pos:=kp.2},x.inner⟩ else Pr.bnd (Pr.body kp.1) fun f=>Pr.ret ⟨{f with pos:=kp.2},[]⟩):=fun o=>by
  cases o with
  |none=>exact (inferInstance:Stk (Pr.ret _))
  |some t=>exact i2 t
 obtain ⟨o,t1,h1,h2,h3⟩:=kv6 h he
 obtain ⟨k,p,rfl,w,hm,g1,g2,g3,g4,g5⟩:=start_inv h1 h3 hs hi
 have key: ∀p∈Pr.allWords,p.1=kw p.2∧(1≤p.2∧p.2≤14):=by decide
 obtain ⟨k1,k3⟩:=key _ hm
 dsimp only at k1 k3
 have h2:(if k=13 then Pr.bnd Pr.template fun x=>Pr.ret (⟨{x.flat with pos:=p},x.inner⟩:Pr.Item) else Pr.bnd (Pr.body k) fun f=>Pr.ret (⟨{f with pos:=p},[]⟩:Pr.Item)) t1=(x,s1):=h2
 by_cases h13:k=13
 ·rw [if_pos h13] at h2
  obtain ⟨y,t2,h4,h5,h6⟩:=kv6 h2 he
  have h5:((⟨{y.flat with pos:=p},y.inner⟩:Pr.Item),t2)=(x,s1):=h5
  injection h5 with h7 h8
  subst h7 h8
  obtain ⟨n,t3,hn,r1,h⟩:=kv8 h4 h6 g1
  obtain ⟨ns,t4,h7,h8,h9⟩:=kv6 h h6
  obtain ⟨m,em,r2⟩:=names_inv h7 h9 r1.ok
  obtain ⟨t5,r3,h⟩:=kv7 h8 h6 r2.ok
  obtain ⟨fs,t6,h10,h11,h12⟩:=kv6 h h6
  have rr:=(r1.trans r2).trans r3
  obtain ⟨ls,e1,e2,e3,r4,n4⟩:=tmpl_w _ (Nat.lt_succ_self _) (show Pr.tmplMore (t5.rest.length+1) t5=(fs,t6) from h10) h12 r3.ok (by rw [rr.items];exact g3)
  have h11:((⟨{Pr.flat0 with kind:=13,name:=n,names:=ns},fs⟩:Pr.Item),t6)=(y,t2):=h11
  injection h11 with h14 h15
  subst h14 h15
  refine ⟨_,tmpl_item hn em e1 p,⟨rfl,fun z hz=>?_⟩,?_,⟨r4.ok,?_,r4.max,?_⟩,?_⟩
  ·obtain ⟨f,hf,rfl⟩:=List.mem_map.1 hz
   exact e2 f hf
  ·rw [List.length_append,List.length_append,e3];simp only [List.length_cons,List.length_nil];omega
  ·rw [r4.items,rr.items,g2];show _=_+(1+fs.length);omega
  ·have a1:=rr.wt;have a2:=r4.wt
   rw [lw_app,lw_app,lw_one,lw_one]
   have kk:w.length=8:=by rw [k1,h13];rfl
   rw [kk] at g5
   simp only [wq] at a1 ⊢
   omega
  ·have:=rr.len;omega
 ·rw [if_neg h13] at h2
  obtain ⟨f0,t2,h4,h5,h6⟩:=kv6 h2 he
  obtain ⟨l,e1,e2,e3,r⟩:=body_w h13 k3 h4 h6 g1
  have h5:((⟨{f0 with pos:=p},[]⟩:Pr.Item),t2)=(x,s1):=h5
  injection h5 with h7 h8
  subst h7 h8
  obtain ⟨m1,m2⟩:=e1 p
  refine ⟨[(false,kw k::l)],?_,⟨e3,fun z hz=>by cases hz⟩,by simp only [List.length_cons,List.length_nil];omega,⟨r.ok,by rw [r.items,g2];rfl,by rw [r.items];exact g3,?_⟩,by have:=r.len;omega⟩
  ·unfold itemL
   have hk: ¬(rst ⟨{f0 with pos:=p},[]⟩).h.kind=13:=by show ¬(f0.kind:Int)=13;rw [e2];omega
   rw [if_neg hk]
   unfold flatL
   have m1:flatT (rst ⟨{f0 with pos:=p},[]⟩).h=some (kw k::l):=m1
   rw [m1]
   exact if_pos ⟨m2,rfl⟩
  ·have:=r.wt
   rw [lw_one,kj3,←k1]
   omega
theorem sizes_two (a b:List Tree):sizes (a++b)=sizes a+sizes b:=by
 induction a with
 |nil=>rw [List.nil_append];exact (Nat.zero_add _).symm
 |cons x a ih=>rw [List.cons_append,kv9,kv9,ih];omega
theorem rst_size (x:Pr.Item):sizes [rst x]=1+x.inner.length:=by
 have h: ∀l:List Pr.Flat,sizes (l.map rsf)=l.length:=fun l=>by
  induction l with
  |nil=>rfl
  |cons a l ih=>rw [List.map_cons,kv9,ih,List.length_cons];show 0+1+_=_;omega
 rw [kv9]
 show sizes (x.inner.map rsf)+1+0=_
 rw [h];omega
theorem items_w: ∀(k:Nat) {s s1:Pr.St} {xs:List Pr.Item},Pr.itemsMore k s=(xs,s1)→s1.err=0→OkS s→s.items≤600→ ∃ls,each itemL (xs.map rst)=some ls∧(∀x∈xs,H7 (rst x))∧ls.length≤2*sizes (xs.map rst)∧Ri s s1 (lw ls) (sizes (xs.map rst))
 |0,s,s1,xs,h,he,hs,hi=>by
  have h:(([]:List Pr.Item),s)=(xs,s1):=h
  injection h with h1 h2
  subst h1 h2
  exact ⟨[],rfl,fun x hx=>(by cases hx),Nat.le_refl _,⟨hs,rfl,hi,Nat.le_of_eq (Nat.zero_add _)⟩⟩
 |k+1,s,s1,xs,h,he,hs,hi=>by
  have h:(if (s.err==0&&!s.rest.isEmpty)=true then Pr.bnd Pr.item fun x=>Pr.bnd (Pr.itemsMore k) fun l=>Pr.ret (x::l) else Pr.ret []) s=(xs,s1):=h
  split at h
  ·obtain ⟨x,t1,h3,h4,h5⟩:=kv6 h he
   obtain ⟨l,e1,e2,e3,r1,_⟩:=item_w h3 h5 hs hi
   obtain ⟨ys,t2,h6,h7,h8⟩:=kv6 h4 he
   obtain ⟨ls,f1,f2,f3,r2⟩:=items_w k h6 h8 r1.ok r1.max
   have h7:(x::ys,t2)=(xs,s1):=h7
   injection h7 with h9 h10
   subst h9 h10
   have hz:sizes ((x::ys).map rst)=(1+x.inner.length)+sizes (ys.map rst):=by
    rw [←rst_size x,←sizes_two];rfl
   refine ⟨l++ls,?_,fun y hy=>?_,?_,⟨r2.ok,?_,r2.max,?_⟩⟩
   ·show catL (itemL (rst x)) (each itemL (ys.map rst))=_
    rw [e1,f1];rfl
   ·rcases List.mem_cons.1 hy with rfl|hy
    ·exact e2
    ·exact f2 y hy
   ·rw [hz,List.length_append];omega
   ·rw [r2.items,r1.items,hz];omega
   ·have:=r1.wt;have:=r2.wt
    rw [lw_app];omega
  ·have h:(([]:List Pr.Item),s)=(xs,s1):=h
   injection h with h1 h2
   subst h1 h2
   exact ⟨[],rfl,fun x hx=>(by cases hx),Nat.le_refl _,⟨hs,rfl,hi,Nat.le_of_eq (Nat.zero_add _)⟩⟩
theorem exp2_inv {β:Type} {x y:Bytes} {g:Pr.M β} [Stk g] {s s':Pr.St} {b:β} (h:Pr.seq (Pr.expect [x,y]) g s=(b,s')) (he:s'.err=0) (hs:OkS s): ∃s1,Rd s s1 (x.length+1+(y.length+1))∧g s1=(b,s'):=by
 obtain ⟨a,s1,h1,h2,h3⟩:=kv6 (f:=fun _=>g) h he
 have h1:Pr.bnd (Pr.acc x) (fun b=>if b then Pr.expect [y] else Pr.fail) s=(a,s1):=h1
 rcases kj2 h1 hs with ⟨s2,r,h4⟩|h4
 ·have h4:Pr.bnd (Pr.acc y) (fun b=>if b then Pr.expect [] else Pr.fail) s2=(a,s1):=h4
  rcases kj2 h4 r.ok with ⟨s3,r2,h5⟩|h5
  ·have h5:((),s3)=(a,s1):=h5
   injection h5 with _ h5
   subst h5
   exact ⟨s3,r.trans r2,h2⟩
  ·have h5:Pr.fail s2=(a,s1):=h5
   have h6:=fail_err s2 r.ok.err
   rw [h5] at h6
   exact absurd h3 h6
 ·have h4:Pr.fail s=(a,s1):=h4
  have h5:=fail_err s hs.err
  rw [h4] at h5
  exact absurd h3 h5
theorem header_inv {s s1:Pr.St} {S:Pr.Source} (h:Pr.header s=(S,s1)) (he:s1.err=0) (hs:OkS s): ∃l,(∀x:Src,x.name=S.name→x.frm=rsc S.frm→x.days=S.days→firstT x=some l)∧Rd s s1 (wl l):=by
 obtain ⟨t1,r1,h⟩:=kv7 h he hs
 obtain ⟨n,t2,hn,r2,h⟩:=kv8 h he r1.ok
 obtain ⟨t3,r3,h⟩:=kv7 h he r2.ok
 obtain ⟨d,t4,h1,h2,h3⟩:=kv6 h he
 obtain ⟨l,e1,r4⟩:=date_inv h1 h3 r3.ok
 obtain ⟨t5,r5,h⟩:=kv7 h2 he r4.ok
 obtain ⟨k,t6,e2,r6,h⟩:=num_inv h he r5.ok
 obtain ⟨t7,r7,h⟩:=exp2_inv h he r6.ok
 have h:((⟨n,d,k,[]⟩:Pr.Source),t7)=(S,s1):=h
 injection h with h4 h5
 subst h4 h5
 refine ⟨_,fun x q1 q2 q3=>kv5 rfl (kv5 (by rw [q1];exact kj0 hn) (kv5 rfl (kv5 (by rw [q2];exact e1) (kv5 rfl (kv5 (by rw [q3];exact e2) rfl))))),((((((r1.trans r2).trans r3).trans r4).trans r5).trans r6).trans r7).le ?_⟩
 simp only [wq];omega
theorem toks_worth: ∀(ts:List Tok) (l:Bytes) (p:Nat),Lx.Toks ts l p→(ts.map fun t=>t.text.length).sum≤l.length
 | [],l,p,_=>Nat.zero_le _
 |t::ts,l,p,h=>by
  obtain ⟨h1,h2,h3,h4⟩:=h
  have ih:=toks_worth ts _ _ h4
  have hl:=Lx.tok_len h1
  rw [List.length_drop] at ih
  have hs:=Lx.skip_length l
  rw [List.map_cons,List.sum_cons]
  omega
theorem tok_TOK {t:Tok} (h:Lx.tokOf t.text= .ok (t.kind,t.text.length,t.n)):TOK t:=by
 obtain ⟨kind,text,n,pos⟩:=t
 dsimp only at h
 cases text with
 |nil=>cases h
 |cons c l=>
  have h:(if Lx.isLetter c then (if 24<Lx.nameLen (c::l) then .error 3 else .ok (1,Lx.nameLen (c::l),0)) else if Lx.isDigit c then (if 12<Lx.numLen (c::l)∨Lx.wordAt ((c::l).drop (Lx.numLen (c::l)))=true then .error 5 else .ok (2,Lx.numLen (c::l),Lx.valFrom 0 ((c::l).take (Lx.numLen (c::l))))) else if Lx.isSym c then .ok (3,1,0) else .error 4:Except Nat (Nat×Nat×Nat))= .ok (kind,(c::l).length,n):=h
  by_cases hl:Lx.isLetter c=true
  ·rw [if_pos hl] at h
   split at h
   ·cases h
   ·next h24=>
    injection h with h
    injection h with h1 h
    injection h with h2 h3
    subst h1 h3
    refine ⟨fun _=>?_,fun e=>absurd e (show (1:Nat)≠2 by decide)⟩
    show isName (c::l)=true
    unfold isName
    simp only [Bool.and_eq_true,decide_eq_true_eq]
    exact ⟨⟨hl,by omega⟩,h2⟩
  ·rw [if_neg hl] at h
   by_cases hd:Lx.isDigit c=true
   ·rw [if_pos hd] at h
    split at h
    ·cases h
    ·next h12=>
     injection h with h
     injection h with h1 h
     injection h with h2 h3
     subst h1
     refine ⟨fun e=>absurd e (show (2:Nat)≠1 by decide),fun _=>?_⟩
     have hall:=Lx.numLen_digits (c::l)
     rw [h2,List.take_length] at hall h3
     have h12:(c::l).length≤12:=by rw [←h2];omega
     have h4:=Lx.valFrom_lt _ hall
     have h5:=Lx.valFrom_small _ hall h12
     rw [h3] at h4 h5
     refine ⟨by show n≤_;omega,?_⟩
     have:=digits_len l.length n (by rw [List.length_cons] at h4;exact h4)
     show (Lib.decDigits n).length≤l.length+1
     exact this
   ·rw [if_neg hd] at h
    split at h
    ·injection h with h
     injection h with h1 h
     subst h1
     exact ⟨fun e=>absurd e (show (3:Nat)≠1 by decide),fun e=>absurd e (show (3:Nat)≠2 by decide)⟩
    ·cases h
theorem toks_TOK: ∀(ts:List Tok) (l:Bytes) (p:Nat),Lx.Toks ts l p→ ∀t∈ts,TOK t
 | [],l,p,_,t,ht=>by cases ht
 |u::ts,l,p,h,t,ht=>by
  obtain ⟨h1,h2,h3,h4⟩:=h
  rcases List.mem_cons.1 ht with rfl|ht
  ·have:=Lx.tokOf_take h1 (Nat.le_refl _)
   rw [←h2] at this
   exact tok_TOK this
  ·exact toks_TOK ts _ _ h4 t ht
theorem wt_eq (ts:List Tok):wt ts=(ts.map fun t=>t.text.length).sum+ts.length:=by
 induction ts with
 |nil=>rfl
 |cons t ts ih=>rw [wt_cons,ih,List.map_cons,List.sum_cons,List.length_cons];omega
theorem line_len: ∀(l:List Bytes) (last:Bytes),(lineText last l).length≤wl l
 | [],_=>Nat.zero_le _
 |x::l,last=>by
  have:=line_len l x
  show (sepOf last x++x++lineText x l).length≤_
  rw [List.length_append,List.length_append,kj3]
  have hs:(sepOf last x).length≤1:=by unfold sepOf;split<;>simp
  omega
theorem text_len: ∀ls:List Line,(textOf ls).length≤lw ls+3*ls.length
 | []=>Nat.zero_le _
 |l::ls=>by
  have ih:=text_len ls
  have h1:=line_len l.2 []
  have e:(oneLine l).length≤wl l.2+3:=by
   unfold oneLine
   rw [List.length_append,List.length_append]
   split<;>simp<;>omega
  show (oneLine l++textOf ls).length≤lw ([l]++ls)+3*(l::ls).length
  have e2:lw [l]=wl l.2:=by unfold lw;simp
  rw [List.length_append,lw_app,e2,List.length_cons]
  omega
theorem words_two: ∀l:List Bytes,(∀x∈l,x≠ [])→2*l.length≤wl l
 | [],_=>Nat.zero_le _
 |x::l,h=>by
  have ih:=words_two l (fun y hy=>h y (List.mem_cons_of_mem _ hy))
  have:1≤x.length:=List.length_pos_iff.2 (h x (List.mem_cons_self ..))
  rw [kj3,List.length_cons];omega
theorem print_parsed {F:Bytes} {S:Pr.Source} (h:Pr.parse F= .ok S) (hl:F.length≤3000): ∃G,print (rss S)= .ok G∧ ∀x∈(rss S).items,H7 x:=by
 unfold Pr.parse at h
 cases hx:Lx.lex F with
 |error e=>rw [hx] at h;cases h
 |ok ts=>
  rw [hx] at h
  obtain ⟨S1,z,hz⟩: ∃a b,Pr.source ⟨ts,0,0⟩=(a,b):=⟨_,_,rfl⟩
  dsimp only at h
  rw [hz] at h
  dsimp only at h
  split at h
  case isFalse=>cases h
  next he=>
  injection h with h
  have ht:=Lx.lex_toks hx
  have hok:OkS ⟨ts,0,0⟩:=⟨toks_TOK ts F 0 ht,rfl⟩
  have hz:Pr.bnd Pr.header (fun h=>Pr.bnd (Pr.long Pr.itemsMore) fun l=>Pr.ret {h with items:=l}) ⟨ts,0,0⟩=(S1,z):=hz
  obtain ⟨S0,t1,h1,h2,h3⟩:=kv6 hz he
  obtain ⟨l,e1,r1⟩:=header_inv h1 h3 hok
  obtain ⟨xs,t2,h4,h5,h6⟩:=kv6 h2 he
  obtain ⟨ls,e2,e3,e4,r2⟩:=items_w _ (show Pr.itemsMore (t1.rest.length+1) t1=(xs,t2) from h4) h6 r1.ok (by rw [r1.items];exact Nat.zero_le _)
  have h5:(({S0 with items:=xs}:Pr.Source),t2)=(S1,z):=h5
  injection h5 with h7 h8
  rw [h] at h7
  subst h7
  have hsz:sizes (xs.map rst)≤600:=by have:=r2.items;have:=r2.max;omega
  have hw:lw ((false,l)::ls)+wt t2.rest≤wt ts:=by
   have a1:=r1.wt;have a2:=r2.wt
   have:lw ((false,l)::ls)=wl l+lw ls:=by
    show lw ([(false,l)]++ls)=_
    rw [lw_app,lw_one]
   rw [this]
   have a1:wl l+wt t1.rest≤wt ts:=a1
   omega
  have hwt:wt ts≤6000:=by
   have b1:=toks_worth ts F 0 ht
   have b2:=Lx.toks_len ht
   rw [wt_eq];omega
  have hsrc:srcL (rss {S0 with items:=xs})=some ((false,l)::ls):=by
   unfold srcL
   rw [e1 (rss {S0 with items:=xs}) rfl rfl rfl]
   show catL (some [(false,l)]) (each itemL (xs.map rst))=_
   rw [e2];rfl
  have hok2:=srcL_ok hsrc
  have h9:=text_len ((false,l)::ls)
  have h10:2*toksOf ((false,l)::ls)≤lw ((false,l)::ls):=by
   rw [←toks_flat]
   refine words_two _ (fun x hx=>?_)
   obtain ⟨m,hm,hxm⟩:=List.mem_flatMap.1 hx
   exact ((hok2 m hm).2 x hxm).tokB.1
  rw [List.length_cons] at h9
  refine ⟨textOf ((false,l)::ls),?_,fun x hx=>?_⟩
  ·unfold print
   rw [hsrc]
   exact if_neg (by
    show ¬(600<sizes (xs.map rst)∨_)
    omega)
  ·obtain ⟨y,hy,rfl⟩:=List.mem_map.1 hx
   exact e3 y hy
end Go.Proofs.YtfficindoecpfaaGreatDoor.Pt
namespace Go.Proofs.YtfficindoecpfaaGreatDoor.Pt
open Rs Ic
abbrev BG (x:Bytes):Prop:=x.length≤9223372036854775807
theorem nm_bg {x:Bytes} (h:isName x=true):BG x:=by
 unfold isName at h
 simp only [Bool.and_eq_true,decide_eq_true_eq] at h
 show x.length≤_
 omega
theorem nl_bg {x:Bytes} (h:x= []):BG x:=by subst h;exact Nat.zero_le _
theorem kj5 {x:Bytes} {l:List Bytes} (h:name x=some l):BG x:=nm_bg (jz4 h).1
theorem span_bg {s:Span} {l:List Bytes} (h:span s=some l):BG s.name:=by
 unfold span at h
 split at h
 ·next e=>exact nl_bg e
 ·exact kj5 h
theorem kj1 {s:Span} (h:s=span0):BG s.name:=by subst h;exact Nat.zero_le _
theorem commas_len {α:Type} {f:α→T} (hf: ∀x l,f x=some l→1≤l.length): ∀(b:Bool) (xs:List α) (l:List Bytes),commas f b xs=some l→xs.length≤l.length
 |_,[],l,_=>Nat.zero_le _
 |b,x::xs,l,h=>by
  obtain ⟨c,d,h1,h2,rfl⟩:=jq4 h
  obtain ⟨e,g,h3,h4,rfl⟩:=jq4 h2
  have:=commas_len hf false xs g h4
  have:=hf x e h3
  rw [List.length_append,List.length_append,List.length_cons];omega
theorem commas_nm: ∀(b:Bool) (xs l:List Bytes),commas name b xs=some l→ ∀x∈xs,BG x
 |_,[],l,_,x,hx=>by cases hx
 |b,y::xs,l,h,x,hx=>by
  obtain ⟨c,d,h1,h2,rfl⟩:=jq4 h
  obtain ⟨e,g,h3,h4,rfl⟩:=jq4 h2
  rcases List.mem_cons.1 hx with rfl|hx
  ·exact kj5 h3
  ·exact commas_nm false xs g h4 x hx
theorem names_bg {ns l:List Bytes} (h:namesT ns=some l):(∀x∈ns,BG x)∧ns.length≤l.length:=by
 obtain ⟨a1,b1,h1,h2,rfl⟩:=jq4 h
 obtain ⟨a2,a3,h3,h4,rfl⟩:=jq4 h2
 refine ⟨commas_nm _ _ _ h3,?_⟩
 have:=commas_len (fun x l h=>by rw [(jz4 h).2];exact Nat.le_refl _) _ _ _ h3
 rw [List.length_append,List.length_append];omega
theorem conds_bg: ∀(b:Bool) (cs:List Named) (l:List Bytes),conds b cs=some l→(∀c∈cs,BG c.name)∧cs.length≤l.length
 |_,[],l,_=>⟨fun c hc=>(by cases hc),Nat.zero_le _⟩
 |b,c::cs,l,h=>by
  obtain ⟨x,y,h1,h2,rfl⟩:=jq4 h
  obtain ⟨k1,k2⟩:=conds_bg false cs y h2
  unfold cond at h1
  split at h1
  ·obtain ⟨p,q,h3,h4,rfl⟩:=jq4 h1
   obtain ⟨r,s,h5,h6,rfl⟩:=jq4 h4
   refine ⟨fun d hd=>?_,?_⟩
   ·rcases List.mem_cons.1 hd with rfl|hd
    ·exact kj5 h5
    ·exact k1 d hd
   ·rw [jx4 h3,List.length_append,List.length_append,List.length_cons,List.length_cons];omega
  ·cases h1
theorem circ_bg {h:Rs.Item} {l:List Bytes} (e:circ h=some l):BG h.by_∧BG h.til∧(∀c∈h.conds,BG c.name)∧h.conds.length≤l.length:=by
 obtain ⟨a,b,h1,h2,rfl⟩:=jq4 e
 obtain ⟨k1,k2⟩:=conds_bg _ _ _ h1
 have k3:h.conds.length≤(a++b).length:=by rw [List.length_append];omega
 split at h2
 ·next hz=>exact ⟨nl_bg hz.1,nl_bg hz.2,k1,k3⟩
 ·obtain ⟨a1,b1,h3,h4,rfl⟩:=jq4 h2
  obtain ⟨a2,b2,h5,h6,rfl⟩:=jq4 h4
  obtain ⟨a3,a4,h7,h8,rfl⟩:=jq4 h6
  exact ⟨kj5 h5,kj5 h8,k1,k3⟩
theorem amount_bg {r:Ratio} {u:Bytes} {l:List Bytes} (h:amount r u=some l):BG u:=by
 obtain ⟨a,c,h1,h2,rfl⟩:=jq4 h
 obtain ⟨d,e,h3,h4,rfl⟩:=jq4 h2
 exact kj5 h4
theorem cons_bg {h:Rs.Item} {l:List Bytes} (e:cons h=some l) (hb:ConsB h):BG h.unit∧BG h.sum∧BG h.to_:=by
 obtain ⟨a,b,h1,h2,rfl⟩:=jq4 e
 obtain ⟨hb1,hb2,hb3⟩:=hb
 rw [kq2] at hb2
 rw [kv3] at hb3
 by_cases hs:h.sum= []∧h.unit= []
 ·rw [if_pos hs] at hb3
  exact ⟨nl_bg hs.2,nl_bg hs.1,nl_bg hb3⟩
 ·rw [if_neg hs] at h1 hb2
  obtain ⟨a1,b1,h3,h4,rfl⟩:=jq4 h1
  obtain ⟨a2,b2,h5,h6,rfl⟩:=jq4 h4
  obtain ⟨a3,b3,h7,h8,rfl⟩:=jq4 h6
  by_cases hz:h.sum= []
  ·rw [if_pos hz] at h5
   exact ⟨amount_bg h5,nl_bg hz,kj5 h8⟩
  ·rw [if_neg hz] at h5 hb2
   exact ⟨nl_bg hb2,kj5 h5,kj5 h8⟩
theorem kj4 {w:Bytes} {h:Rs.Item} {l:List Bytes} (e:begin_ w h=some l):BG h.name:=nm_bg (jv5 e).1
structure Fi (h:Rs.Item) (n:Nat):Prop where
 ok:Ok h
 conds:h.conds.length≤n
 dates:h.dates.length≤n
 names:h.names.length≤n
theorem z0 {α:Type} {x:List α} {n:Nat} (h:x= []):x.length≤n:=by subst h;exact Nat.zero_le _
theorem cz {x:List Named} (h:x= []): ∀c∈x,BG c.name:=by subst h;intro c hc;cases hc
theorem nz {x:List Bytes} (h:x= []): ∀c∈x,BG c:=by subst h;intro c hc;cases hc
theorem fine_flat {h:Rs.Item} {l:List Bytes} (e:flatT h=some l) (hb:blank (left h)):Fi h l.length:=by
 unfold flatT at e
 by_cases hk:h.kind=1
 ·rw [if_pos hk] at e
  rw [lf.1 hk] at hb
  obtain ⟨b1,b2,b3,b4,b5,b6,b7,b8,b9,b10,b11,b12,b13,b14,b15,b16,b17,b18,b19⟩:=hb
  obtain ⟨a,b,h1,h2,rfl⟩:=jq4 e
  exact ⟨⟨kj4 h1,nl_bg b2,nl_bg b3,nl_bg b9,nl_bg b10,nl_bg b12,nl_bg b13,nl_bg b15,nl_bg b16,kj1 b6,kj1 b7,cz b8,nz b19⟩,z0 b8,z0 b18,z0 b19⟩
 rw [if_neg hk] at e;clear hk
 by_cases hk:h.kind=2
 ·rw [if_pos hk] at e
  rw [lf.2.1 hk] at hb
  obtain ⟨b1,b2,b3,b4,b5,b6,b7,b8,b9,b10,b11,b12,b13,b14,b15,b16,b17,b18,b19⟩:=hb
  obtain ⟨a,b,h1,h2,rfl⟩:=jq4 e
  obtain ⟨a2,b2',h3,h4,rfl⟩:=jq4 h2
  obtain ⟨a3,b3',h5,h6,rfl⟩:=jq4 h4
  exact ⟨⟨kj4 h1,kj5 h5,nl_bg b3,nl_bg b9,nl_bg b10,nl_bg b12,nl_bg b13,nl_bg b15,nl_bg b16,kj1 b6,kj1 b7,cz b8,nz b19⟩,z0 b8,z0 b18,z0 b19⟩
 rw [if_neg hk] at e;clear hk
 by_cases hk:h.kind=3
 ·rw [if_pos hk] at e
  obtain ⟨a,b,h1,h2,rfl⟩:=jq4 e
  obtain ⟨a2,b2',h3,h4,rfl⟩:=jq4 h2
  obtain ⟨a3,b3',h5,h6,rfl⟩:=jq4 h4
  by_cases hu:h.unit= []
  ·rw [lf3z hk hu] at hb
   obtain ⟨b1,b2,b3,b4,b5,b6,b7,b8,b9,b10,b11,b12,b13,b14,b15,b16,b17,b18,b19⟩:=hb
   exact ⟨⟨kj4 h1,nl_bg b2,nl_bg b3,nl_bg b9,nl_bg b10,nl_bg hu,nl_bg b13,nl_bg b15,nl_bg b16,kj1 b6,kj1 b7,cz b8,nz b19⟩,z0 b8,z0 b18,z0 b19⟩
  ·rw [lf3n hk hu] at hb
   obtain ⟨b1,b2,b3,b4,b5,b6,b7,b8,b9,b10,b11,b12,b13,b14,b15,b16,b17,b18,b19⟩:=hb
   rw [if_neg hu] at h5
   obtain ⟨a4,b4',h7,h8,rfl⟩:=jq4 h5
   exact ⟨⟨kj4 h1,nl_bg b2,nl_bg b3,nl_bg b9,nl_bg b10,amount_bg h8,nl_bg b13,nl_bg b15,nl_bg b16,kj1 b6,kj1 b7,cz b8,nz b19⟩,z0 b8,z0 b18,z0 b19⟩
 rw [if_neg hk] at e;clear hk
 by_cases hk:h.kind=4
 ·rw [lf.2.2.2.1 hk] at hb
  obtain ⟨b1,b2,b3,b4,b5,b6,b7,b8,b9,b10,b11,b12,b13,b14,b15,b16,b17,b18,b19⟩:=hb
  exact ⟨⟨nl_bg b1,nl_bg b2,nl_bg b3,nl_bg b9,nl_bg b10,nl_bg b12,nl_bg b13,nl_bg b15,nl_bg b16,kj1 b6,kj1 b7,cz b8,nz b19⟩,z0 b8,z0 b18,z0 b19⟩
 rw [if_neg hk] at e;clear hk
 by_cases hk:h.kind=5
 ·rw [if_pos hk] at e
  rw [lf.2.2.2.2.1 hk] at hb
  obtain ⟨b1,b2,b3,b4,b5,b6,b7,b8,b9,b10,b11,b12,b13,b14,b15,b16,b17,b18,b19⟩:=hb
  refine ⟨⟨nl_bg b1,nl_bg b2,nl_bg b3,nl_bg b9,nl_bg b10,nl_bg b12,nl_bg b13,nl_bg b15,nl_bg b16,kj1 b6,kj1 b7,cz b8,nz b19⟩,z0 b8,?_,z0 b19⟩
  unfold holiday at e
  split at e
  ·cases e
  ·obtain ⟨a,b,h1,h2,rfl⟩:=jq4 e
   obtain ⟨a2,b2',h3,h4,rfl⟩:=jq4 h2
   have:=commas_len (f:=date) (fun x l h=>by
    obtain ⟨p,q,k1,k2,rfl⟩:=jq4 h
    rw [(jv6 k1).2,List.length_append];simp only [List.length_cons,List.length_nil];omega) _ _ _ h3
   rw [List.length_append,List.length_append];omega
 rw [if_neg hk] at e;clear hk
 by_cases hk:h.kind=6
 ·rw [if_pos hk] at e
  rw [lf.2.2.2.2.2.1 hk] at hb
  obtain ⟨b1,b2,b3,b4,b5,b6,b7,b8,b9,b10,b11,b12,b13,b14,b15,b16,b17,b18,b19⟩:=hb
  obtain ⟨a,b,h1,h2,rfl⟩:=jq4 e
  have hw:h.within.name= []:=congrArg Span.name b6
  exact ⟨⟨kj4 h1,nl_bg b2,nl_bg b3,nl_bg b9,nl_bg b10,nl_bg b12,nl_bg b13,nl_bg b15,nl_bg b16,nl_bg hw,kj1 b7,cz b8,nz b19⟩,z0 b8,z0 b18,z0 b19⟩
 rw [if_neg hk] at e;clear hk
 by_cases hk:h.kind=7
 ·rw [if_pos hk] at e
  rw [lf.2.2.2.2.2.2.1 hk] at hb
  obtain ⟨b1,b2,b3,b4,b5,b6,b7,b8,b9,b10,b11,b12,b13,b14,b15,b16,b17,b18,b19⟩:=hb
  obtain ⟨a,b,h1,h2,rfl⟩:=jq4 e
  obtain ⟨a2,b2',h3,h4,rfl⟩:=jq4 h2
  obtain ⟨a3,b3',h5,h6,rfl⟩:=jq4 h4
  exact ⟨⟨kj4 h1,nl_bg b2,nl_bg b3,nl_bg b9,nl_bg b10,amount_bg h5,nl_bg b13,nl_bg b15,nl_bg b16,kj1 b6,kj1 b7,cz b8,nz b19⟩,z0 b8,z0 b18,z0 b19⟩
 rw [if_neg hk] at e;clear hk
 by_cases hk:h.kind=8
 ·rw [if_pos hk] at e
  obtain ⟨a,b,h1,h2,rfl⟩:=jq4 e
  obtain ⟨a2,b2',h3,h4,rfl⟩:=jq4 h2
  obtain ⟨a3,b3',h5,h6,rfl⟩:=jq4 h4
  obtain ⟨a4,b4',h7,h8,rfl⟩:=jq4 h6
  have ho:BG h.of_:=by
   unfold actOf at h5
   split at h5
   ·cases h5
   ·split at h5
    ·next e=>exact nl_bg e
    ·exact kj5 h5
  unfold actWord at h7
  split at h7
  ·next hw=>
   rw [lf8g hk (by omega)] at hb
   obtain ⟨b1,b2,b3,b4,b5,b6,b7,b8,b9,b10,b11,b12,b13,b14,b15,b16,b17,b18,b19⟩:=hb
   obtain ⟨c1,d1,g1,g2,rfl⟩:=jq4 h7
   obtain ⟨c2,d2,g3,g4,rfl⟩:=jq4 g2
   obtain ⟨c3,d3,g5,g6,rfl⟩:=jq4 g4
   exact ⟨⟨kj4 h1,ho,nl_bg b3,nl_bg b9,nl_bg b10,nl_bg b12,nl_bg b13,kj5 g3,kj5 g6,kj1 b6,kj1 b7,cz b8,nz b19⟩,z0 b8,z0 b18,z0 b19⟩
  ·split at h7
   ·next hw=>
    obtain ⟨c1,d1,g1,g2,rfl⟩:=jq4 h7
    have ht:BG h.to_:=by
     split at g2
     ·next e=>exact nl_bg e
     ·obtain ⟨c2,d2,g3,g4,rfl⟩:=jq4 g2
      exact kj5 g4
    by_cases hu:h.unit= []
    ·rw [lf8z hk hw hu] at hb
     obtain ⟨b1,b2,b3,b4,b5,b6,b7,b8,b9,b10,b11,b12,b13,b14,b15,b16,b17,b18,b19⟩:=hb
     exact ⟨⟨kj4 h1,ho,nl_bg b3,nl_bg b9,nl_bg b10,nl_bg hu,nl_bg b13,nl_bg b15,ht,kj1 b6,kj1 b7,cz b8,nz b19⟩,z0 b8,z0 b18,z0 b19⟩
    ·rw [lf8n hk hw hu] at hb
     obtain ⟨b1,b2,b3,b4,b5,b6,b7,b8,b9,b10,b11,b12,b13,b14,b15,b16,b17,b18,b19⟩:=hb
     rw [if_neg hu] at g1
     obtain ⟨c2,d2,g3,g4,rfl⟩:=jq4 g1
     exact ⟨⟨kj4 h1,ho,nl_bg b3,nl_bg b9,nl_bg b10,amount_bg g4,nl_bg b13,nl_bg b15,ht,kj1 b6,kj1 b7,cz b8,nz b19⟩,z0 b8,z0 b18,z0 b19⟩
   ·cases h7
 rw [if_neg hk] at e;clear hk
 have clause: ∀ {c:List Bytes} {n:Nat},circ h=some c→c.length≤n→BG h.name→BG h.of_→BG h.act→BG h.unit→BG h.sum→BG h.to_→h.give= []→BG h.within.name→BG h.grace.name→h.dates= []→h.names= []→Fi h n:=fun {c n} e1 e2 k1 k2 k3 k4 k5 k6 k7 k8 k9 k10 k11=>by
  obtain ⟨c1,c2,c3,c4⟩:=circ_bg e1
  exact ⟨⟨k1,k2,k3,c1,c2,k4,k5,nl_bg k7,k6,k8,k9,c3,nz k11⟩,by omega,z0 k10,z0 k11⟩
 have bear: ∀ {c:List Bytes},bearer h=some c→BG h.of_∧BG h.act:=fun {c} e=>by
  obtain ⟨a1,b1,h1,e2,rfl⟩:=jq4 e
  obtain ⟨a2,b2,h2,e3,rfl⟩:=jq4 e2
  obtain ⟨a3,a4,h3,h4,rfl⟩:=jq4 e3
  exact ⟨kj5 h2,kj5 h4⟩
 by_cases hk:h.kind=9
 ·rw [if_pos hk] at e
  rw [lf.2.2.2.2.2.2.2.2.1 hk] at hb
  obtain ⟨a1,r1,h1,g1,rfl⟩:=jq4 e
  obtain ⟨a2,r2,h2,g2,rfl⟩:=jq4 g1
  obtain ⟨a3,r3,h3,g3,rfl⟩:=jq4 g2
  obtain ⟨a4,r4,h4,g4,rfl⟩:=jq4 g3
  obtain ⟨a5,r5,h5,g5,rfl⟩:=jq4 g4
  obtain ⟨a6,r6,h6,g6,rfl⟩:=jq4 g5
  obtain ⟨a7,r7,h7,g7,rfl⟩:=jq4 g6
  obtain ⟨a8,a9,h8,h9,rfl⟩:=jq4 g7
  obtain ⟨c,d⟩:=clB_cons hb
  have hc:=consB_of (h:=h) d rfl rfl rfl rfl
  obtain ⟨m1,m2,m3⟩:=cons_bg h8 hc
  have hg:BG h.grace.name:=by
   unfold grace at h6
   split at h6
   ·next e=>exact kj1 e
   ·obtain ⟨p,q,k1,k2,rfl⟩:=jq4 h6
    exact span_bg k2
  exact clause h7 (by simp only [List.length_append];omega) (kj4 h1) (bear h2).1 (bear h2).2 m1 m2 m3 c.give (span_bg h5) hg c.dates c.names
 rw [if_neg hk] at e;clear hk
 by_cases hk:h.kind=10
 ·rw [if_pos hk] at e
  rw [lf.2.2.2.2.2.2.2.2.2.1 hk] at hb
  obtain ⟨a1,r1,h1,g1,rfl⟩:=jq4 e
  obtain ⟨a2,r2,h2,g2,rfl⟩:=jq4 g1
  obtain ⟨a4,r4,h4,g4,rfl⟩:=jq4 g2
  obtain ⟨a5,r5,h5,g5,rfl⟩:=jq4 g4
  obtain ⟨a7,r7,h7,g7,rfl⟩:=jq4 g5
  obtain ⟨a8,a9,h8,h9,rfl⟩:=jq4 g7
  obtain ⟨c,d⟩:=clB_cons hb
  have hc:=consB_of (h:=h) d rfl rfl rfl rfl
  obtain ⟨m1,m2,m3⟩:=cons_bg h8 hc
  exact clause h7 (by simp only [List.length_append];omega) (kj4 h1) (bear h2).1 (bear h2).2 m1 m2 m3 c.give (span_bg h5) (kj1 c.grace) c.dates c.names
 rw [if_neg hk] at e;clear hk
 by_cases hk:h.kind=11
 ·rw [if_pos hk] at e
  rw [lf.2.2.2.2.2.2.2.2.2.2.1 hk] at hb
  obtain ⟨a1,r1,h1,g1,rfl⟩:=jq4 e
  obtain ⟨a2,r2,h2,g2,rfl⟩:=jq4 g1
  obtain ⟨a4,r4,h4,g4,rfl⟩:=jq4 g2
  obtain ⟨a5,r5,h5,g5,rfl⟩:=jq4 g4
  obtain ⟨a7,a9,h7,h9,rfl⟩:=jq4 g5
  obtain ⟨c,d1,d2,d3,d4,d5⟩:=clB_circ hb
  exact clause h7 (by simp only [List.length_append];omega) (kj4 h1) (bear h2).1 (bear h2).2 (nl_bg d2) (nl_bg d3) (nl_bg d5) c.give (span_bg h5) (kj1 c.grace) c.dates c.names
 rw [if_neg hk] at e;clear hk
 by_cases hk:h.kind=12
 ·rw [if_pos hk] at e
  rw [lf.2.2.2.2.2.2.2.2.2.2.2.1 hk] at hb
  obtain ⟨a1,r1,h1,g1,rfl⟩:=jq4 e
  obtain ⟨a2,r2,h2,g2,rfl⟩:=jq4 g1
  obtain ⟨a3,r3,h3,g3,rfl⟩:=jq4 g2
  obtain ⟨a4,r4,h4,g4,rfl⟩:=jq4 g3
  obtain ⟨a5,r5,h5,g5,rfl⟩:=jq4 g4
  obtain ⟨a7,a9,h7,h9,rfl⟩:=jq4 g5
  obtain ⟨c,d1,d2,d3,d4,d5⟩:=clB_circ hb
  exact clause h7 (by simp only [List.length_append];omega) (kj4 h1) (nl_bg c.of_) (kj5 h3) (nl_bg d2) (nl_bg d3) (nl_bg d5) c.give (span_bg h5) (kj1 c.grace) c.dates c.names
 rw [if_neg hk] at e;clear hk
 by_cases hk:h.kind=14
 ·rw [if_pos hk] at e
  rw [lf.2.2.2.2.2.2.2.2.2.2.2.2.2 hk] at hb
  obtain ⟨b1,b2,b3,b4,b5,b6,b7,b8,b9,b10,b11,b12,b13,b14,b15,b16,b17,b18,b19⟩:=hb
  obtain ⟨a1,r1,h1,g1,rfl⟩:=jq4 e
  obtain ⟨a2,r2,h2,g2,rfl⟩:=jq4 g1
  obtain ⟨a3,r3,h3,g3,rfl⟩:=jq4 g2
  obtain ⟨a4,r4,h4,g4,rfl⟩:=jq4 g3
  obtain ⟨a5,a6,h5,h6,rfl⟩:=jq4 g4
  obtain ⟨k1,k2⟩:=names_bg h5
  exact ⟨⟨kj5 h4,kj5 h2,nl_bg b3,nl_bg b9,nl_bg b10,nl_bg b12,nl_bg b13,nl_bg b15,nl_bg b16,kj1 b6,kj1 b7,cz b8,k1⟩,z0 b8,z0 b18,by simp only [List.length_append];omega⟩
 rw [if_neg hk] at e
 cases e
theorem fine_head {h:Rs.Item} {l:List Bytes} (hk:h.kind=13) (e:head h=some l) (hb:blank (left h)):Fi h l.length:=by
 rw [lf.2.2.2.2.2.2.2.2.2.2.2.2.1 hk] at hb
 obtain ⟨b1,b2,b3,b4,b5,b6,b7,b8,b9,b10,b11,b12,b13,b14,b15,b16,b17,b18,b19⟩:=hb
 obtain ⟨a,b,h1,h2,rfl⟩:=jq4 e
 obtain ⟨a2,b2',h3,h4,rfl⟩:=jq4 h2
 obtain ⟨k1,k2⟩:=names_bg h3
 exact ⟨⟨kj4 h1,nl_bg b2,nl_bg b3,nl_bg b9,nl_bg b10,nl_bg b12,nl_bg b13,nl_bg b15,nl_bg b16,kj1 b6,kj1 b7,cz b8,k1⟩,z0 b8,z0 b18,by simp only [List.length_append];omega⟩
end Go.Proofs.YtfficindoecpfaaGreatDoor.Pt
namespace Go.Proofs.YtfficindoecpfaaGreatDoor.Pt
open Rs Ic
theorem kj8 (x:Rs.Item) (p:Int):circLeft {x with pos:=p}= {circLeft x with pos:=p}:=by
 unfold circLeft
 by_cases h:x.by_= []∧x.til= []
 ·rw [if_pos (show ({x with pos:=p}:Rs.Item).by_= []∧({x with pos:=p}:Rs.Item).til= [] from h),if_pos h]
 ·rw [if_neg (show ¬(({x with pos:=p}:Rs.Item).by_= []∧({x with pos:=p}:Rs.Item).til= []) from h),if_neg h]
theorem consLeft_pos (x:Rs.Item) (p:Int):consLeft {x with pos:=p}= {consLeft x with pos:=p}:=by
 unfold consLeft
 by_cases h:x.sum= []∧x.unit= []
 ·rw [if_pos (show ({x with pos:=p}:Rs.Item).sum= []∧({x with pos:=p}:Rs.Item).unit= [] from h),if_pos h]
 ·rw [if_neg (show ¬(({x with pos:=p}:Rs.Item).sum= []∧({x with pos:=p}:Rs.Item).unit= []) from h),if_neg h]
  by_cases h2:x.sum= []
  ·rw [if_pos (show ({x with pos:=p}:Rs.Item).sum= [] from h2),if_pos h2]
  ·rw [if_neg (show ¬({x with pos:=p}:Rs.Item).sum= [] from h2),if_neg h2]
theorem left_pos {x:Rs.Item} (hk:(1≤x.kind∧x.kind≤14)) (p:Int):left {x with pos:=p}= {left x with pos:=p}:=by
 have hc:x.kind=1∨x.kind=2∨x.kind=3∨x.kind=4∨x.kind=5∨x.kind=6∨x.kind=7∨x.kind=8∨x.kind=9∨x.kind=10∨x.kind=11∨x.kind=12∨x.kind=13∨x.kind=14:=by omega
 rcases hc with h|h|h|h|h|h|h|h|h|h|h|h|h|h
 ·rw [lf.1 h,(lf (h:= {x with pos:=p})).1 h]
 ·rw [lf.2.1 h,(lf (h:= {x with pos:=p})).2.1 h]
 ·by_cases hu:x.unit= []
  ·rw [lf3z h hu,lf3z (h:= {x with pos:=p}) h hu]
  ·rw [lf3n h hu,lf3n (h:= {x with pos:=p}) h hu];rfl
 ·rw [lf.2.2.2.1 h,(lf (h:= {x with pos:=p})).2.2.2.1 h]
 ·rw [lf.2.2.2.2.1 h,(lf (h:= {x with pos:=p})).2.2.2.2.1 h]
 ·rw [lf.2.2.2.2.2.1 h,(lf (h:= {x with pos:=p})).2.2.2.2.2.1 h]
 ·rw [lf.2.2.2.2.2.2.1 h,(lf (h:= {x with pos:=p})).2.2.2.2.2.2.1 h];rfl
 ·by_cases hw:x.word=1
  ·by_cases hu:x.unit= []
   ·rw [lf8z h hw hu,lf8z (h:= {x with pos:=p}) h hw hu]
   ·rw [lf8n h hw hu,lf8n (h:= {x with pos:=p}) h hw hu];rfl
  ·rw [lf8g h hw,lf8g (h:= {x with pos:=p}) h hw]
 ·rw [lf.2.2.2.2.2.2.2.2.1 h,(lf (h:= {x with pos:=p})).2.2.2.2.2.2.2.2.1 h,←consLeft_pos,←kj8]
 ·rw [lf.2.2.2.2.2.2.2.2.2.1 h,(lf (h:= {x with pos:=p})).2.2.2.2.2.2.2.2.2.1 h,←consLeft_pos,←kj8]
 ·rw [lf.2.2.2.2.2.2.2.2.2.2.1 h,(lf (h:= {x with pos:=p})).2.2.2.2.2.2.2.2.2.2.1 h,←kj8]
 ·rw [lf.2.2.2.2.2.2.2.2.2.2.2.1 h,(lf (h:= {x with pos:=p})).2.2.2.2.2.2.2.2.2.2.2.1 h,←kj8]
 ·rw [lf.2.2.2.2.2.2.2.2.2.2.2.2.1 h,(lf (h:= {x with pos:=p})).2.2.2.2.2.2.2.2.2.2.2.2.1 h]
 ·rw [lf.2.2.2.2.2.2.2.2.2.2.2.2.2 h,(lf (h:= {x with pos:=p})).2.2.2.2.2.2.2.2.2.2.2.2.2 h]
theorem flat_kind {h:Rs.Item} {l:List Bytes} (e:flatT h=some l):1≤h.kind∧h.kind≤14:=by
 by_cases hc:1≤h.kind∧h.kind≤14
 ·exact hc
 ·unfold flatT at e
  rw [if_neg (by omega),if_neg (by omega),if_neg (by omega),if_neg (by omega),if_neg (by omega),if_neg (by omega),if_neg (by omega),if_neg (by omega),if_neg (by omega),if_neg (by omega),if_neg (by omega),if_neg (by omega),if_neg (by omega)] at e
  cases e
theorem flat_pos (x:Rs.Item) (p:Int):flatT {x with pos:=p}=flatT x:=rfl
theorem blank_pos (x:Rs.Item) (p:Int):blank {x with pos:=p}↔blank x:=Iff.rfl
theorem flatL_same {b:Bool} {x y:Tree} {ls:List Line} (h:EqH x.h y.h) (hl:x.l= []→y.l= []) (e:flatL b x=some ls):flatL b y=some ls:=by
 obtain ⟨l,rfl,h1,h2,h3⟩:=kj6 e
 unfold flatL
 have hf:flatT y.h=some l:=by rw [show y.h= {x.h with pos:=y.h.pos} from h,flat_pos];exact h1
 rw [hf]
 refine if_pos ⟨?_,hl h3⟩
 rw [show y.h= {x.h with pos:=y.h.pos} from h,left_pos (flat_kind h1),blank_pos]
 exact h2
theorem innerL_eq {x y:Tree} {ls:List Line} (h:EqI x y) (e:innerL x=some ls):innerL y=some ls:=by
 unfold innerL at e ⊢
 have hk:y.h.kind=x.h.kind:=by rw [show y.h= {x.h with pos:=y.h.pos} from h.1]
 rw [hk]
 split at e
 ·next hi=>rw [if_pos hi];exact flatL_same h.1 (fun _=>h.2.2) e
 ·cases e
theorem each_eq {R:Tree→Tree→Prop} {f:Tree→Option (List Line)} (hf: ∀x y ls,R x y→f x=some ls→f y=some ls): ∀(a b:List Tree) (ls:List Line),Al2 R a b→each f a=some ls→each f b=some ls
 | [],[],ls,_,e=>e
 |x::a,y::b,ls,h,e=>by
  obtain ⟨p,q,h1,h2,rfl⟩:=kq5 e
  show catL (f y) (each f b)=_
  rw [hf x y p h.1 h1,each_eq hf a b q h.2 h2];rfl
theorem itemL_eq {x y:Tree} {ls:List Line} (h:EqT x y) (e:itemL x=some ls):itemL y=some ls:=by
 obtain ⟨h1,h2⟩:=h
 have hy:y.h= {x.h with pos:=y.h.pos}:=h1
 have hk:y.h.kind=x.h.kind:=by rw [hy]
 unfold itemL at e ⊢
 rw [hk]
 by_cases h13:x.h.kind=13
 ·rw [if_pos h13] at e ⊢
  have hh:head y.h=head x.h:=by rw [hy];rfl
  rw [hh]
  cases hx:head x.h with
  |none=>rw [hx] at e;cases e
  |some l=>
   rw [hx] at e
   cases hm:each innerL x.l with
   |none=>rw [hm] at e;cases e
   |some ms=>
    rw [hm] at e
    have e:(if blank (left x.h) then some ([(false,l)]++ms++ [(false,[[125]])]) else none)=some ls:=e
    dsimp only
    rw [each_eq (f:=innerL) (R:=EqI) (fun _ _ _ a b=>innerL_eq a b) _ _ _ h2 hm]
    by_cases hb:blank (left x.h)
    ·rw [if_pos hb] at e
     have hb2:blank (left y.h):=by rw [hy,left_pos (by omega),blank_pos];exact hb
     show (if blank (left y.h) then _ else _)=_
     rw [if_pos hb2]
     exact e
    ·rw [if_neg hb] at e;cases e
 ·rw [if_neg h13] at e ⊢
  refine flatL_same h1 (fun hx=>?_) e
  rw [hx] at h2
  cases hy:y.l with
  |nil=>rfl
  |cons a b=>rw [hy] at h2;exact h2.elim
theorem sizes_al: ∀(a b:List Tree),Al2 EqI a b→sizes a=sizes b
 | [],[],_=>rfl
 |x::a,y::b,h=>by
  rw [kv9,kv9,h.1.2.1,h.1.2.2,sizes_al a b h.2]
theorem sizes_eqT: ∀(a b:List Tree),Al2 EqT a b→sizes a=sizes b
 | [],[],_=>rfl
 |x::a,y::b,h=>by
  rw [kv9,kv9,sizes_al _ _ h.1.2,sizes_eqT a b h.2]
theorem print_eqS {x y:Src} {F:Bytes} (h:EqS x y) (e:print x= .ok F):print y= .ok F:=by
 obtain ⟨ls,h1,rfl,h2,h3,h4⟩:=print_some e
 have hs:srcL y=some ls:=by
  unfold srcL at h1 ⊢
  have hf:firstT y=firstT x:=by unfold firstT;rw [h.name,h.frm,h.days]
  rw [hf]
  cases hx:firstT x with
  |none=>rw [hx] at h1;cases h1
  |some l=>
   rw [hx] at h1
   obtain ⟨p,q,k1,k2,rfl⟩:=kq5 h1
   show catL (some [(false,l)]) (each itemL y.items)=_
   rw [each_eq (f:=itemL) (R:=EqT) (fun _ _ _ a b=>itemL_eq a b) _ _ _ h.items k2,k1];rfl
 unfold print
 rw [hs]
 exact if_neg (by rw [←sizes_eqT _ _ h.items];omega)
theorem mem_cat {ls:List Line} {l:Line} (h:l∈ls):l.2.length≤toksOf ls:=by
 induction ls with
 |nil=>cases h
 |cons a ls ih=>
  have e:toksOf (a::ls)=a.2.length+toksOf ls:=rfl
  rcases List.mem_cons.1 h with rfl|h
  ·omega
  ·have:=ih h;omega
theorem each_at {f:Tree→Option (List Line)}: ∀(a:List Tree) (ls:List Line),each f a=some ls→ ∀x∈a,∃p,f x=some p∧ ∀l∈p,l∈ls
 | [],ls,_,x,hx=>by cases hx
 |y::a,ls,e,x,hx=>by
  obtain ⟨p,q,h1,h2,rfl⟩:=kq5 e
  rcases List.mem_cons.1 hx with rfl|hx
  ·exact ⟨p,h1,fun l hl=>List.mem_append.2 (.inl hl)⟩
  ·obtain ⟨r,h3,h4⟩:=each_at a q h2 x hx
   exact ⟨r,h3,fun l hl=>List.mem_append.2 (.inr (h4 l hl))⟩
theorem fi_fine {x:Tree} {n:Nat} (h:Fi x.h n) (h7:x.h.days.length=7) (hl:x.l.length≤1048576) (hn:n≤5000):FineT x:=⟨h.ok,h7,hl,by have:=h.conds;omega,by have:=h.dates;omega,by have:=h.names;omega⟩
theorem fi_cost {h:Rs.Item} {n:Nat} (hf:Fi h n) (hn:n≤5000):cost h≤110400:=by
 have:=hf.conds;have:=hf.dates;have:=hf.names
 unfold cost;omega
theorem costL_up: ∀(l:List Tree),(∀x∈l,cost x.h≤110400)→costLT l≤220820*l.length
 | [],_=>Nat.zero_le _
 |x::l,h=>by
  have h1:=h x (List.mem_cons_self ..)
  have h2:=costL_up l (fun y hy=>h y (List.mem_cons_of_mem _ hy))
  have e:costLT (x::l)=(2*cost x.h+20)+costLT l:=rfl
  rw [e,List.length_cons];omega
theorem costS_up: ∀(l:List Tree),(∀x∈l,cost x.h≤110400∧ ∀z∈x.l,cost z.h≤110400)→costST l≤220830*sizes l
 | [],_=>Nat.zero_le _
 |x::l,h=>by
  obtain ⟨h1,h3⟩:=h x (List.mem_cons_self ..)
  have h2:=costS_up l (fun y hy=>h y (List.mem_cons_of_mem _ hy))
  have h4:=costL_up x.l h3
  have h5:=Ic.length_sizes x.l
  have e:costST (x::l)=costTT x+costST l:=rfl
  have e2:costTT x=2*cost x.h+costLT x.l+30:=rfl
  rw [e,e2,kv9];omega
theorem mem_sizes: ∀(l:List Tree) (x:Tree),x∈l→sizes x.l≤sizes l
 | [],x,hx=>by cases hx
 |y::l,x,hx=>by
  rw [kv9]
  rcases List.mem_cons.1 hx with rfl|hx
  ·omega
  ·have:=mem_sizes l x hx;omega
theorem printable {s:Src} {F:Bytes} (e:print s= .ok F) (h7: ∀x∈s.items,H7 x):AllFine s.items∧s.name.length≤9223372036854775807∧costST s.items+100≤lim:=by
 obtain ⟨ls,h1,rfl,h2,h3,h4⟩:=print_some e
 unfold srcL at h1
 cases hf:firstT s with
 |none=>rw [hf] at h1;cases h1
 |some l=>
  rw [hf] at h1
  obtain ⟨p,q,k1,k2,rfl⟩:=kq5 h1
  have hn:BG s.name:=by
   obtain ⟨a,b,e1,e2,rfl⟩:=jq4 hf
   obtain ⟨c,d,e3,e4,rfl⟩:=jq4 e2
   exact kj5 e3
  have hq: ∀l∈q,l.2.length≤5000:=fun l hl=>Nat.le_trans (mem_cat (List.mem_append.2 (.inr hl))) h3
  have key: ∀x∈s.items,(∃n,n≤5000∧Fi x.h n)∧ ∀z∈x.l,(∃n,n≤5000∧Fi z.h n)∧z.l= []:=fun x hx=>by
   obtain ⟨r,e1,e2⟩:=each_at _ _ k2 x hx
   unfold itemL at e1
   by_cases h13:x.h.kind=13
   ·rw [if_pos h13] at e1
    cases hh:head x.h with
    |none=>rw [hh] at e1;cases e1
    |some l=>
     rw [hh] at e1
     cases hm:each innerL x.l with
     |none=>rw [hm] at e1;cases e1
     |some ms=>
      rw [hm] at e1
      have e1:(if blank (left x.h) then some ([(false,l)]++ms++ [(false,[[125]])]) else none)=some r:=e1
      by_cases hb:blank (left x.h)
      ·rw [if_pos hb] at e1
       injection e1 with e1
       subst e1
       refine ⟨⟨_,hq _ (e2 (false,l) (by simp)),fine_head h13 hh hb⟩,fun z hz=>?_⟩
       obtain ⟨u,f1,f2⟩:=each_at _ _ hm z hz
       unfold innerL at f1
       split at f1
       ·obtain ⟨m,rfl,g1,g2,g3⟩:=kj6 f1
        exact ⟨⟨_,hq _ (e2 (true,m) (by
         have:=f2 (true,m) (List.mem_singleton.2 rfl)
         simp [this])),fine_flat g1 g2⟩,g3⟩
       ·cases f1
      ·rw [if_neg hb] at e1;cases e1
   ·rw [if_neg h13] at e1
    obtain ⟨m,rfl,g1,g2,g3⟩:=kj6 e1
    refine ⟨⟨_,hq _ (e2 (false,m) (List.mem_singleton.2 rfl)),fine_flat g1 g2⟩,fun z hz=>?_⟩
    rw [g3] at hz;cases hz
  have hlen: ∀x∈s.items,x.l.length≤1048576:=fun x hx=>by
   have a1:=Ic.length_sizes x.l
   have a2:=mem_sizes s.items x hx
   omega
  refine ⟨fun x hx=>⟨?_,fun z hz=>?_⟩,hn,?_⟩
  ·obtain ⟨⟨n,b1,b2⟩,_⟩:=key x hx
   exact fi_fine b2 (h7 x hx).1 (hlen x hx) b1
  ·obtain ⟨⟨n,b1,b2⟩,b3⟩:=(key x hx).2 z hz
   exact fi_fine b2 ((h7 x hx).2 z hz) (by rw [b3];exact Nat.zero_le _) b1
  ·have:=costS_up s.items (fun x hx=>by
    obtain ⟨⟨n,b1,b2⟩,b4⟩:=key x hx
    exact ⟨fi_cost b2 b1,fun z hz=>by obtain ⟨⟨m,c1,c2⟩,_⟩:=b4 z hz;exact fi_cost c2 c1⟩)
   unfold lim
   omega
end Go.Proofs.YtfficindoecpfaaGreatDoor.Pt
