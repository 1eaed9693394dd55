/-
  The parser reads only the kinds, texts and numbers of tokens: two texts whose tokens have the same ones have trees that differ only in offsets. Two texts whose tokens have the same kinds, texts and numbers: their trees differ only in offsets, their errors stand at the same token. The number of items that began.
-/
import Derived.Test.YtfaflipphkoiiaaDoorParFirst
set_option linter.unusedVariables false
namespace Go.Proofs.YtfaflipphkoiiaaDoor.Pr
open Lx (Tok)
def key (t:Tok):Nat×Bytes×Nat:=(t.kind,t.text,t.n)
theorem key_inj {t t':Tok} (h:key t'=key t):t'.kind=t.kind∧t'.text=t.text∧t'.n=t.n:=by
 simp only [key,Prod.mk.injEq] at h;exact h
def Like (d:Nat) (s s':St):Prop:=s'.rest.map key=s.rest.map key∧s'.items=s.items+d∧s'.err=s.err
theorem Like.len {d:Nat} {s s':St} (h:Like d s s'):s'.rest.length=s.rest.length:=by
 have:=congrArg List.length h.1;simpa using this
theorem Like.cases {d:Nat} {s s':St} (h:Like d s s'):(s.rest= []∧s'.rest= [])∨ ∃t r t' r',s.rest=t::r∧s'.rest=t'::r'∧key t'=key t∧r'.map key=r.map key:=by
 have h1:=h.1
 cases hr:s.rest with
 |nil=>rw [hr] at h1;left;exact ⟨rfl,by simpa using h1⟩
 |cons t r=>
  rw [hr] at h1
  cases hr':s'.rest with
  |nil=>rw [hr'] at h1;simp at h1
  |cons t' r'=>
   rw [hr'] at h1
   simp only [List.map_cons,List.cons.injEq] at h1
   exact .inr ⟨t,r,t',r',rfl,rfl,h1.1,h1.2⟩
theorem Like.isT {d:Nat} {s s':St} (h:Like d s s') (x:Bytes):isT x s'=isT x s:=by
 unfold Pr.isT
 rw [h.2.2]
 rcases h.cases with ⟨h1,h2⟩|⟨t,r,t',r',h1,h2,h3,_⟩
 ·rw [h1,h2]
 ·rw [h1,h2];simp only [(key_inj h3).2.1]
theorem Like.isK {d:Nat} {s s':St} (h:Like d s s') (k:Nat):isK k s'=isK k s:=by
 unfold Pr.isK
 rw [h.2.2]
 rcases h.cases with ⟨h1,h2⟩|⟨t,r,t',r',h1,h2,h3,_⟩
 ·rw [h1,h2]
 ·rw [h1,h2];simp only [(key_inj h3).1]
theorem Like.tail {d:Nat} {s s':St} (h:Like d s s'):Like d {s with rest:=s.rest.tail} {s' with rest:=s'.rest.tail}:=by
 refine ⟨?_,h.2.1,h.2.2⟩
 show s'.rest.tail.map key=s.rest.tail.map key
 rw [List.map_tail,List.map_tail,h.1]
theorem Like.fail {d:Nat} {s s':St} (h:Like d s s'):Like d (Pr.fail s).2 (Pr.fail s').2:=by
 unfold Pr.fail
 by_cases he:s.err=0
 ·have he':s'.err=0:=h.2.2.trans he
  simp only [he,he',ne_eq,not_true_eq_false,if_false]
  refine ⟨h.1,h.2.1,?_⟩
  rcases h.cases with ⟨h1,h2⟩|⟨t,r,t',r',h1,h2,h3,_⟩
  ·simp only [h1,h2]
  ·simp only [h1,h2]
 ·have he':s'.err≠0:=by rw [h.2.2];exact he
  simp only [he,he',ne_eq,not_false_eq_true,if_true]
  exact h
structure Like0 {α:Type} (m:M α):Prop where
 keep: ∀s,(m s).2.items=s.items
 sim: ∀d s s',Like d s s'→(m s').1=(m s).1∧Like d (m s).2 (m s').2
theorem Like0.ret {α:Type} (a:α):Like0 (ret a):=⟨fun _=>rfl,fun d s s' h=>⟨rfl,h⟩⟩
theorem Like0.bnd {α β:Type} {m:M α} {f:α→M β} (h:Like0 m) (hf: ∀a,Like0 (f a)):Like0 (bnd m f):=by
 refine ⟨fun s=>((hf _).1 _).trans (h.1 s),fun d s s' hs=>?_⟩
 obtain ⟨e1,e2⟩:=h.2 d s s' hs
 show (f (m s').1 (m s').2).1=_∧Like d _ (f (m s').1 (m s').2).2
 rw [e1]
 exact (hf _).2 d _ _ e2
theorem Like0.fail:Like0 fail:=⟨fun s=>by unfold Pr.fail;simp only;split<;>rfl,fun d s s' h=>⟨rfl,h.fail⟩⟩
theorem Like0.acc (x:Bytes):Like0 (acc x):=by
 refine ⟨fun s=>by unfold Pr.acc;split<;>rfl,fun d s s' h=>?_⟩
 unfold Pr.acc
 rw [h.isT x]
 cases Pr.isT x s
 ·exact ⟨rfl,h⟩
 ·exact ⟨rfl,h.tail⟩
theorem Like0.good:Like0 good:=⟨fun _=>rfl,fun d s s' h=>⟨by unfold Pr.good;rw [h.2.2],h⟩⟩
theorem Like0.optb {β:Type} (k:Nat) {f:Option Tok→M β} (h0:Like0 (f none)) (h1: ∀t,Like0 (f (some t))) (hk: ∀t t',key t'=key t→f (some t')=f (some t)):Like0 (Pr.bnd (opt k) f):=by
 have hf: ∀o,Like0 (f o):=fun o=>by cases o;exact h0;exact h1 _
 refine ⟨fun s=>?_,fun d s s' h=>?_⟩
 ·show (f _ _).2.items=_
  rw [(hf _).1]
  unfold opt
  split<;>rfl
 ·show (f (opt k s').1 (opt k s').2).1=(f (opt k s).1 (opt k s).2).1∧Like d (f (opt k s).1 (opt k s).2).2 (f (opt k s').1 (opt k s').2).2
  unfold opt
  rw [h.isK k]
  cases hb:isK k s with
  |false=>exact h0.2 d s s' h
  |true=>
   simp only [if_true]
   rcases h.cases with ⟨e1,e2⟩|⟨t,r,t',r',e1,e2,e3,_⟩
   ·simp [isK,e1] at hb
   ·have ht:=h.tail
    rw [e1,e2] at ht ⊢
    simp only [List.head?_cons]
    rw [hk t t' e3]
    exact (h1 t).2 d _ _ ht
theorem Like0.long {α:Type} {m:Nat→M α} (h: ∀n,Like0 (m n)):Like0 (long m):=
 ⟨fun s=>(h _).1 s,fun d s s' hs=>by unfold Pr.long;rw [hs.len];exact (h _).2 d s s' hs⟩
theorem Like0.seq {α β:Type} {m:M α} {f:M β} (h:Like0 m) (hf:Like0 f):Like0 (seq m f):=Like0.bnd h fun _=>hf
theorem name_eq:name=bnd (opt 1) fun o=>match o with|some t=>ret t.text|none=>seq fail (ret []):=by
 funext s
 unfold name take bnd
 cases (opt 1 s).1<;>rfl
theorem number_eq:number=bnd (opt 2) fun o=>match o with|some t=>ret t.n|none=>seq fail (ret 0):=by
 funext s
 unfold number take bnd
 cases (opt 2 s).1<;>rfl
theorem Like0.name:Like0 name:=by
 rw [name_eq]
 exact Like0.optb 1 (Like0.seq Like0.fail (Like0.ret _)) (fun _=>Like0.ret _) (fun t t' h=>by simp only [(key_inj h).2.1])
theorem Like0.number:Like0 number:=by
 rw [number_eq]
 exact Like0.optb 2 (Like0.seq Like0.fail (Like0.ret _)) (fun _=>Like0.ret _) (fun t t' h=>by simp only [(key_inj h).2.2])
theorem Like0.expect (l:List Bytes):Like0 (expect l):=by
 induction l with
 |nil=>exact Like0.ret _
 |cons x r ih=>exact Like0.bnd (Like0.acc x) fun b=>by cases b<;>first|exact ih|exact Like0.fail
theorem Like0.anyOf (l:List Bytes): ∀i,Like0 (anyOf l i):=by
 induction l with
 |nil=>intro i;exact Like0.seq Like0.fail (Like0.ret _)
 |cons x r ih=>intro i;exact Like0.bnd (Like0.acc x) fun b=>by cases b<;>first|exact ih _|exact Like0.ret _
theorem Like0.date:Like0 date:=Like0.bnd Like0.number fun _=>Like0.seq (Like0.expect _) (Like0.bnd Like0.number fun _=>Like0.seq (Like0.expect _) (Like0.bnd Like0.number fun _=>Like0.ret _))
theorem Like0.named:Like0 named:=Like0.bnd Like0.name fun _=>Like0.bnd (Like0.anyOf _ _) fun _=>Like0.ret _
theorem Like0.ite {α:Type} {c:Prop} [Decidable c] {a b:M α} (ha:Like0 a) (hb:Like0 b):Like0 (if c then a else b):=by split<;>assumption
theorem Like0.ratio:Like0 ratio:=Like0.bnd Like0.number fun _=>Like0.bnd (Like0.acc _) fun _=>Like0.ite (Like0.bnd Like0.number fun _=>Like0.ret _) (Like0.ret _)
theorem Like0.days:Like0 days:=Like0.bnd Like0.number fun _=>Like0.bnd (Like0.acc _) fun _=>Like0.seq (Like0.expect _) (Like0.ret _)
theorem Like0.span:Like0 span:=Like0.optb 1 Like0.days (fun _=>Like0.ret _) (fun t t' h=>by simp only [(key_inj h).2.1])
theorem Like0.namesMore (n:Nat):Like0 (namesMore n):=by
 induction n with
 |zero=>exact Like0.ret _
 |succ n ih=>exact Like0.bnd (Like0.acc _) fun _=>Like0.ite (Like0.bnd Like0.name fun _=>Like0.bnd ih fun _=>Like0.ret _) (Like0.ret _)
theorem Like0.namesEnd (l:List Bytes):Like0 (namesEnd l):=Like0.seq (Like0.expect _) (Like0.ret _)
theorem Like0.names:Like0 names:=Like0.seq (Like0.expect _) (Like0.optb 1 (Like0.namesEnd _) (fun _=>Like0.bnd (Like0.long Like0.namesMore) fun _=>Like0.namesEnd _) (fun t t' h=>by simp only [(key_inj h).2.1]))
theorem Like0.weekday:Like0 weekday:=Like0.anyOf _ _
theorem Like0.weekendMore (n:Nat): ∀l,Like0 (weekendMore n l):=by
 induction n with
 |zero=>exact fun l=>Like0.ret _
 |succ n ih=>exact fun l=>Like0.bnd Like0.weekday fun _=>Like0.bnd Like0.good fun _=>Like0.ite (Like0.bnd (Like0.acc _) fun _=>Like0.ite (ih _) (Like0.seq (Like0.expect _) (Like0.ret _))) (Like0.ret _)
theorem Like0.datesMore (n:Nat):Like0 (datesMore n):=by
 induction n with
 |zero=>exact Like0.ret _
 |succ n ih=>exact Like0.bnd Like0.date fun _=>Like0.bnd (Like0.acc _) fun _=>Like0.ite (Like0.bnd ih fun _=>Like0.ret _) (Like0.ret _)
theorem Like0.condsMore (n:Nat):Like0 (condsMore n):=by
 induction n with
 |zero=>exact Like0.ret _
 |succ n ih=>exact Like0.bnd Like0.named fun _=>Like0.bnd (Like0.acc _) fun _=>Like0.ite (Like0.bnd ih fun _=>Like0.ret _) (Like0.ret _)
theorem Like0.bearer:Like0 bearer:=Like0.seq (Like0.expect _) (Like0.bnd Like0.name fun _=>Like0.seq (Like0.expect _) (Like0.bnd Like0.name fun _=>Like0.ret _))
theorem Like0.circEnd (l:List Named):Like0 (circEnd l):=Like0.bnd (Like0.acc _) fun _=>Like0.ite (Like0.seq (Like0.expect _) (Like0.bnd Like0.name fun _=>Like0.seq (Like0.expect _) (Like0.bnd Like0.name fun _=>Like0.ret _))) (Like0.ret _)
theorem Like0.circ:Like0 circ:=Like0.bnd (Like0.acc _) fun _=>Like0.ite (Like0.bnd (Like0.long Like0.condsMore) fun _=>Like0.circEnd _) (Like0.circEnd _)
theorem Like0.consEnd (q:Price):Like0 (consEnd q):=Like0.bnd (Like0.acc _) fun _=>Like0.ret _
theorem Like0.priceEnd (r:Ratio) (u c:Bytes):Like0 (priceEnd r u c):=Like0.seq (Like0.expect _) (Like0.bnd Like0.name fun _=>Like0.consEnd _)
theorem Like0.cons:Like0 cons:=Like0.bnd (Like0.acc _) fun _=>Like0.ite (Like0.optb 1 (Like0.bnd Like0.ratio fun _=>Like0.bnd Like0.name fun _=>Like0.priceEnd _ _ _) (fun _=>Like0.priceEnd _ _ _) (fun t t' h=>by simp only [(key_inj h).2.1])) (Like0.consEnd _)
theorem Like0.party:Like0 party:=Like0.bnd Like0.name fun _=>Like0.seq (Like0.expect _) (Like0.ret _)
theorem Like0.role:Like0 role:=Like0.bnd Like0.name fun _=>Like0.seq (Like0.expect _) (Like0.bnd Like0.name fun _=>Like0.seq (Like0.expect _) (Like0.ret _))
theorem Like0.unitEnd (n:Bytes) (wd:Nat) (r:Ratio) (u:Bytes):Like0 (unitEnd n wd r u):=Like0.seq (Like0.expect _) (Like0.ret _)
theorem Like0.unitTail (n:Bytes) (wd:Nat):Like0 (unitTail n wd):=Like0.bnd (Like0.acc _) fun _=>Like0.ite (Like0.bnd Like0.ratio fun _=>Like0.bnd Like0.name fun _=>Like0.unitEnd _ _ _ _) (Like0.unitEnd _ _ _ _)
theorem Like0.unit:Like0 unit:=Like0.bnd Like0.name fun _=>Like0.bnd (Like0.acc _) fun _=>Like0.ite (Like0.unitTail _ _) (Like0.seq (Like0.expect _) (Like0.unitTail _ _))
theorem Like0.weekend:Like0 weekend:=Like0.bnd (Like0.long fun n=>Like0.weekendMore n _) fun _=>Like0.ret _
theorem Like0.holiday:Like0 holiday:=Like0.bnd (Like0.long Like0.datesMore) fun _=>Like0.seq (Like0.expect _) (Like0.ret _)
theorem Like0.spanDef:Like0 spanDef:=Like0.bnd Like0.name fun _=>Like0.seq (Like0.expect _) (Like0.bnd Like0.days fun _=>Like0.seq (Like0.expect _) (Like0.ret _))
theorem Like0.sumDef:Like0 sumDef:=Like0.bnd Like0.name fun _=>Like0.seq (Like0.expect _) (Like0.bnd Like0.ratio fun _=>Like0.bnd Like0.name fun _=>Like0.seq (Like0.expect _) (Like0.ret _))
theorem Like0.actGive (n o:Bytes) (wd:Nat):Like0 (actGive n o wd):=Like0.bnd Like0.name fun _=>Like0.seq (Like0.expect _) (Like0.bnd Like0.name fun _=>Like0.seq (Like0.expect _) (Like0.ret _))
theorem Like0.actEnd (n o:Bytes) (r:Ratio) (u x:Bytes):Like0 (actEnd n o r u x):=Like0.seq (Like0.expect _) (Like0.ret _)
theorem Like0.actTo (n o:Bytes) (r:Ratio) (u:Bytes):Like0 (actTo n o r u):=Like0.bnd (Like0.acc _) fun _=>Like0.ite (Like0.bnd Like0.name fun _=>Like0.actEnd _ _ _ _ _) (Like0.actEnd _ _ _ _ _)
theorem Like0.act:Like0 act:=Like0.bnd Like0.name fun _=>Like0.seq (Like0.expect _) (Like0.bnd Like0.name fun _=>Like0.bnd (Like0.acc _) fun _=>Like0.ite (Like0.actGive _ _ _) (Like0.bnd (Like0.acc _) fun _=>Like0.ite (Like0.actGive _ _ _)
 (Like0.bnd (Like0.acc _) fun _=>Like0.ite (Like0.bnd Like0.ratio fun _=>Like0.bnd Like0.name fun _=>Like0.actTo _ _ _ _) (Like0.actTo _ _ _ _))))
theorem Like0.dutyEnd (n:Bytes) (oa:Bytes×Bytes) (t:Nat) (w g:Span):Like0 (dutyEnd n oa t w g):=Like0.bnd Like0.circ fun _=>Like0.bnd Like0.cons fun _=>Like0.seq (Like0.expect _) (Like0.ret _)
theorem Like0.dutyTail (n:Bytes) (oa:Bytes×Bytes) (t:Nat):Like0 (dutyTail n oa t):=Like0.seq (Like0.expect _) (Like0.bnd Like0.span fun _=>Like0.bnd (Like0.acc _) fun _=>Like0.ite (Like0.bnd Like0.span fun _=>Like0.dutyEnd _ _ _ _ _) (Like0.dutyEnd _ _ _ _ _))
theorem Like0.duty:Like0 duty:=Like0.bnd Like0.name fun _=>Like0.bnd Like0.bearer fun _=>Like0.optb 2 (Like0.dutyTail _ _ _) (fun _=>Like0.seq (Like0.expect _) (Like0.dutyTail _ _ _)) (fun t t' h=>by simp only [(key_inj h).2.2])
theorem Like0.ban:Like0 ban:=Like0.bnd Like0.name fun _=>Like0.bnd Like0.bearer fun _=>Like0.seq (Like0.expect _) (Like0.bnd Like0.span fun _=>Like0.bnd Like0.circ fun _=>Like0.bnd Like0.cons fun _=>Like0.seq (Like0.expect _) (Like0.ret _))
theorem Like0.option:Like0 option:=Like0.bnd Like0.name fun _=>Like0.bnd Like0.bearer fun _=>Like0.seq (Like0.expect _) (Like0.bnd Like0.span fun _=>Like0.bnd Like0.circ fun _=>Like0.seq (Like0.expect _) (Like0.ret _))
theorem Like0.watch:Like0 watch:=Like0.bnd Like0.name fun _=>Like0.seq (Like0.expect _) (Like0.bnd Like0.name fun _=>Like0.seq (Like0.expect _) (Like0.bnd Like0.span fun _=>Like0.bnd Like0.circ fun _=>Like0.seq (Like0.expect _) (Like0.ret _)))
theorem Like0.incl:Like0 incl:=Like0.bnd Like0.name fun _=>Like0.seq (Like0.expect _) (Like0.bnd Like0.name fun _=>Like0.bnd Like0.names fun _=>Like0.seq (Like0.expect _) (Like0.ret _))
theorem Like0.body (k:Nat):Like0 (body k):=by
 unfold Pr.body
 split
 ·exact Like0.party
 ·exact Like0.role
 ·exact Like0.unit
 ·exact Like0.weekend
 ·exact Like0.holiday
 ·exact Like0.spanDef
 ·exact Like0.sumDef
 ·exact Like0.act
 ·exact Like0.duty
 ·exact Like0.ban
 ·exact Like0.option
 ·exact Like0.watch
 ·exact Like0.incl
end Go.Proofs.YtfaflipphkoiiaaDoor.Pr
namespace Go.Proofs.YtfaflipphkoiiaaDoor.Pr
open Lx (Tok)
def All2 {α β:Type} (R:α→β→Prop):List α→List β→Prop
 | [],[]=>True
 |x::l,y::l'=>R x y∧All2 R l l'
 |_,_=>False
theorem All2.len {α β:Type} {R:α→β→Prop}: ∀ {l:List α} {l':List β},All2 R l l'→l'.length=l.length
 | [],[],_=>rfl
 |x::l,y::l',h=>by have:=All2.len h.2;simp [this]
 | [],y::l',h=>h.elim
 |x::l,[],h=>h.elim
theorem All2.at {α β:Type} {R:α→β→Prop}: ∀ {l:List α} {l':List β},All2 R l l'→ ∀i (h:i<l.length) (h':i<l'.length),R l[i] l'[i]
 | [],[],_,i,h,_=>by simp at h
 |x::l,y::l',h,0,_,_=>h.1
 |x::l,y::l',h,i+1,h1,h2=>All2.at h.2 i (by simpa using h1) (by simpa using h2)
 | [],y::l',h,_,_,_=>h.elim
 |x::l,[],h,_,_,_=>h.elim
theorem All2.refl {α:Type} {R:α→α→Prop} (hR: ∀x,R x x): ∀l:List α,All2 R l l
 | []=>trivial
 |x::l=>⟨hR x,All2.refl hR l⟩
def EqF (at_:Bool) (f g:Flat):Prop:=g= {f with pos:=g.pos}∧(at_=true→g.pos=f.pos)
theorem EqF.refl (at_:Bool) (f:Flat):EqF at_ f f:=⟨rfl,fun _=>rfl⟩
def EqI (at_:Bool) (x y:Item):Prop:=EqF at_ x.flat y.flat∧All2 (EqF at_) x.inner y.inner
theorem EqI.refl (at_:Bool) (x:Item):EqI at_ x x:=⟨EqF.refl _ _,All2.refl (EqF.refl _) _⟩
def Room (d:Nat) (s:St):Prop:=d=0∨(s.err=0∧s.items+d≤600)
theorem Built.itemsLe {α:Type} {m:M α} (h:Built m): ∀s,s.items≤(m s).2.items:=by
 induction h with
 |ret a=>intro s;exact Nat.le_refl _
 |bnd h hf ih ihf=>intro s;exact Nat.le_trans (ih s) (ihf _ _)
 |fail=>intro s;unfold Pr.fail;simp only;split<;>exact Nat.le_refl _
 |acc x=>intro s;unfold Pr.acc;split<;>exact Nat.le_refl _
 |opt k=>intro s;unfold Pr.opt;split<;>exact Nat.le_refl _
 |good=>intro s;exact Nat.le_refl _
 |long hf h ih=>intro s;exact ih _ s
 |start ws=>
  intro s
  have hf:s.items≤(Pr.fail s).2.items:=by unfold Pr.fail;simp only;split<;>exact Nat.le_refl _
  unfold Pr.start
  split
  ·split
   ·exact Nat.le_refl _
   ·split
    ·exact hf
    ·split
     ·exact Nat.le_refl _
     ·exact Nat.le_succ _
  ·exact hf
theorem Room.back {α:Type} {m:M α} (h:Built m) {d:Nat} {s:St} (hr:Room d (m s).2):Room d s:=by
 rcases hr with h0|⟨h1,h2⟩
 ·exact .inl h0
 ·exact .inr ⟨h.ok h1,by have:=h.itemsLe s;omega⟩
theorem EqF.pos {f:Flat} {p p':Nat}:EqF false {f with pos:=p} {f with pos:=p'}:=⟨rfl,fun h=>by cases h⟩
theorem Like0.header:Like0 header:=by
 unfold Pr.header
 refine Like0.seq (Like0.expect _) (Like0.bnd Like0.name fun n=>Like0.seq (Like0.expect _) (Like0.bnd Like0.date fun d=>Like0.seq (Like0.expect _) (Like0.bnd Like0.number fun k=>?_)))
 exact Like0.seq (Like0.expect _) (Like0.ret _)
end Go.Proofs.YtfaflipphkoiiaaDoor.Pr
