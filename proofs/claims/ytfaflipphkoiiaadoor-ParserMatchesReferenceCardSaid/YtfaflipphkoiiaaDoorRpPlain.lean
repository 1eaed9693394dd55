/-
  The reference's parser in plain Lean; it agrees with the program's: the same state behind each step, and the same tree where there is no error. No condition.
-/
import Derived.Test.YtfaflipphkoiiaaDoorPkParB
set_option linter.unusedVariables false
namespace Go.Proofs.YtfaflipphkoiiaaDoor.Rp
open Pr
open Lx (Tok isDigit isLetter isSym)
def Wt (t:Tok):Prop:=(t.kind=1∧ ∃c r,t.text=c::r∧isLetter c=true)∨(t.kind=2∧ ∃c r,t.text=c::r∧isDigit c=true)∨(t.kind=3∧ ∃c,t.text= [c]∧isSym c=true)
def Wts (s:St):Prop:= ∀t∈s.rest,Wt t
theorem tok_wt (l:List UInt8) (k len v p:Nat) (h:Lx.tokOf l= .ok (k,len,v)):Wt ⟨k,l.take len,v,p⟩:=by
 cases l with
 |nil=>simp [Lx.tokOf] at h
 |cons c l=>
  have h:(if isLetter c then (if 24<Lx.nameLen (c::l) then Except.error 3 else .ok (1,Lx.nameLen (c::l),0))
   else if isDigit c then (if 12<Lx.numLen (c::l)∨Lx.wordAt ((c::l).drop (Lx.numLen (c::l)))=true then .error 5 else .ok (2,Lx.numLen (c::l),Lx.valFrom 0 ((c::l).take (Lx.numLen (c::l)))))
   else if isSym c then .ok (3,1,0) else .error 4:Except Nat (Nat×Nat×Nat))= .ok (k,len,v):=h
  by_cases h1:isLetter c=true
  ·rw [if_pos h1] at h
   split at h
   ·cases h
   ·injection h with h
    injection h with e1 e2
    injection e2 with e2 e3
    subst e1;subst e2
    have hb:Lx.nameByte (c::l)=true:=by simp [Lx.nameByte,Lx.isWord,h1]
    refine .inl ⟨rfl,c,l.take (Lx.nameLen l),?_,h1⟩
    show (c::l).take (Lx.nameLen (c::l))=_
    rw [show Lx.nameLen (c::l)=Lx.nameLen l+1 by simp [Lx.nameLen,hb]]
    rfl
  ·rw [if_neg h1] at h
   by_cases h2:isDigit c=true
   ·rw [if_pos h2] at h
    split at h
    ·cases h
    ·injection h with h
     injection h with e1 e2
     injection e2 with e2 e3
     subst e1;subst e2
     refine .inr (.inl ⟨rfl,c,l.take (Lx.numLen l),?_,h2⟩)
     show (c::l).take (Lx.numLen (c::l))=_
     rw [show Lx.numLen (c::l)=Lx.numLen l+1 by simp [Lx.numLen,h2]]
     rfl
   ·rw [if_neg h2] at h
    by_cases h3:isSym c=true
    ·rw [if_pos h3] at h
     injection h with h
     injection h with e1 e2
     injection e2 with e2 e3
     subst e1;subst e2
     exact .inr (.inr ⟨rfl,c,rfl,h3⟩)
    ·rw [if_neg h3] at h;cases h
theorem lexP_wt: ∀(f:Nat) (s:List UInt8) (p c:Nat) (ts:List Tok),Lx.lexP f s p c= .ok ts→ ∀t∈ts,Wt t
 |0,s,p,c,ts,h=>by
  simp only [Lx.lexP] at h
  injection h with h
  subst h
  intro t ht;cases ht
 |f+1,s,p,c,ts,h=>by
  unfold Lx.lexP at h
  split at h
  ·injection h with h
   subst h
   intro t ht;cases ht
  ·split at h
   ·cases h
   ·split at h
    ·cases h
    ·rename_i k len v htk hc5
     cases hr:Lx.lexP f s (p+len+Lx.gapLen false (s.drop (p+len))) (c+1) with
     |error e=>rw [hr] at h;simp [Lx.comb] at h
     |ok us=>
      have ih:=lexP_wt f s _ (c+1) us hr
      rw [hr] at h
      simp only [Lx.comb,List.singleton_append] at h
      injection h with h
      subst h
      intro t ht
      rcases List.mem_cons.1 ht with rfl|ht
      ·exact tok_wt _ _ _ _ _ htk
      ·exact ih t ht
theorem lex_wt {s:List UInt8} {ts:List Tok} (h:Lx.lex s= .ok ts): ∀t∈ts,Wt t:=by
 unfold Lx.lex at h
 split at h
 ·cases h
 ·split at h
  ·cases h
  ·rename_i us hu
   injection h with h
   subst h
   exact lexP_wt _ _ _ _ _ hu
def Stk {α:Type} (m:M α):Prop:= ∀s,s.err≠0→(m s).2=s
theorem Stk.of {α:Type} {m:M α} (h:Built m):Stk m:=h.stk
theorem Stk.ret {α:Type} (a:α):Stk (ret a):=fun _ _=>rfl
theorem Stk.bnd {α β:Type} {m:M α} {f:α→M β} (h:Stk m) (hf: ∀a,Stk (f a)):Stk (bnd m f):=fun s hs=>by
 show (f (m s).1 (m s).2).2=s
 rw [h s hs];exact hf _ s hs
theorem Stk.seq {α β:Type} {m:M α} {f:M β} (h:Stk m) (hf:Stk f):Stk (seq m f):=Stk.bnd h fun _=>hf
theorem Stk.ite {α:Type} {c:Prop} [Decidable c] {a b:M α} (ha:Stk a) (hb:Stk b):Stk (if c then a else b):=by split<;>assumption
theorem Stk.num {α:Type} {a b:M α} (ha:Stk a) (hb:Stk b):Stk (fun s=>if isK 2 s then a s else b s):=fun s hs=>by
 show (if isK 2 s then a s else b s).2=s
 split
 ·exact ha s hs
 ·exact hb s hs
theorem Stk.long {α:Type} {m:Nat→M α} (h: ∀n,Stk (m n)):Stk (long m):=fun s hs=>h _ s hs
def Ag {α:Type} (m m':M α):Prop:= ∀s,Wts s→(m s).2=(m' s).2∧((m s).2.err=0→(m s).1=(m' s).1)
theorem Ag.refl {α:Type} (m:M α):Ag m m:=fun _ _=>⟨rfl,fun _=>rfl⟩
theorem wts_of {α:Type} {m:M α} (h:Built m) {s:St} (hw:Wts s):Wts (m s).2:=fun t ht=>hw t ((h.suf s).subset ht)
theorem Ag.bnd {α β:Type} {m m':M α} {f f':α→M β} (h:Ag m m') (hb:Built m') (hs: ∀a,Stk (f a)) (hs': ∀a,Stk (f' a)) (hf: ∀a,Ag (f a) (f' a)):Ag (bnd m f) (bnd m' f'):=fun s hw=>by
 obtain ⟨h1,h2⟩:=h s hw
 show (f (m s).1 (m s).2).2=(f' (m' s).1 (m' s).2).2∧((f (m s).1 (m s).2).2.err=0→(f (m s).1 (m s).2).1=(f' (m' s).1 (m' s).2).1)
 by_cases he:(m s).2.err=0
 ·rw [h2 he,h1]
  exact hf _ _ (wts_of hb hw)
 ·rw [hs _ _ he,←h1,hs' _ _ he]
  exact ⟨rfl,fun h=>absurd h he⟩
theorem Ag.seq {α β:Type} {m m':M α} {f f':M β} (h:Ag m m') (hb:Built m') (hs:Stk f) (hs':Stk f') (hf:Ag f f'):Ag (seq m f) (seq m' f'):=Ag.bnd h hb (fun _=>hs) (fun _=>hs') fun _=>hf
theorem Ag.same {α β:Type} {m:M α} {f f':α→M β} (hb:Built m) (hf: ∀a,Ag (f a) (f' a)):Ag (Pr.bnd m f) (Pr.bnd m f'):=fun s hw=>hf _ _ (wts_of hb hw)
theorem Ag.sames {α β:Type} {m:M α} {f f':M β} (hb:Built m) (hf:Ag f f'):Ag (Pr.seq m f) (Pr.seq m f'):=Ag.same hb fun _=>hf
theorem Ag.ite {α:Type} {c:Prop} [Decidable c] {a b a' b':M α} (h1:Ag a a') (h2:Ag b b'):Ag (if c then a else b) (if c then a' else b'):=by split<;>assumption
theorem Ag.long {α:Type} {m m':Nat→M α} (h: ∀n,Ag (m n) (m' n)):Ag (Pr.long m) (Pr.long m'):=fun s hw=>h _ s hw
theorem take_no {k:Nat} {s:St} (h:isK k s=false):take k s=(tok0,(fail s).2):=by simp [take,Pr.bnd,opt,h,Pr.seq,Pr.ret]
theorem take_yes {k:Nat} {s:St} (h:isK k s=true): ∃t r,s.rest=t::r∧t.kind=k∧s.err=0∧take k s=(t,{s with rest:=r})∧opt k s=(some t,{s with rest:=r}):=by
 have h0:=h
 unfold isK at h
 simp only [Bool.and_eq_true,beq_iff_eq] at h
 cases hr:s.rest with
 |nil=>rw [hr] at h;simp at h
 |cons t r=>
  rw [hr] at h
  refine ⟨t,r,rfl,by simpa using h.2,h.1,?_,?_⟩
  ·simp [take,Pr.bnd,opt,h0,Pr.ret,hr]
  ·simp [opt,h0,hr]
theorem opt_no {k:Nat} {s:St} (h:isK k s=false):opt k s=(none,s):=by simp [opt,h]
theorem jj7 (s:St):(fail s).2.err≠0:=by
 unfold fail
 simp only
 split
 ·assumption
 ·cases s.rest<;>simp
theorem num_not_name {s:St} (h:isK 2 s=true):isK 1 s=false:=by
 obtain ⟨t,r,hr,hk,_⟩:=take_yes h
 simp [isK,hr,hk]
theorem num_no {s:St} (h:isK 2 s=false):number s=(0,(fail s).2):=by simp [number,Pr.bnd,Pr.ret,take_no h,tok0]
theorem name_no {s:St} (h:isK 1 s=false):name s=([],(fail s).2):=by simp [name,Pr.bnd,Pr.ret,take_no h,tok0]
def rdays (n:Nat):M Span:=Pr.bnd (acc [98,117,115,105,110,101,115,115]) fun b=>Pr.seq (expect [[100,97,121,115]]) (Pr.ret ⟨n,b,[]⟩)
def rspan:M Span:=fun s=>if isK 2 s then Pr.bnd number rdays s else Pr.bnd name (fun x=>Pr.ret ⟨0,false,x⟩) s
theorem Stk.rdays (n:Nat):Stk (rdays n):=Stk.bnd (Stk.of (Built.acc _)) fun _=>Stk.seq (Stk.of (Built.expect _)) (Stk.ret _)
theorem Stk.rspan:Stk rspan:=Stk.num (Stk.bnd (Stk.of Built.number) Stk.rdays) (Stk.bnd (Stk.of Built.name) fun _=>Stk.ret _)
theorem Ag.rspan:Ag rspan span:=fun s hw=>by
 by_cases he:s.err=0
 ·cases h2:isK 2 s with
  |true=>
   have e1:Rp.rspan s=days s:=by unfold Rp.rspan;rw [if_pos h2];rfl
   have e2:span s=days s:=by unfold span;rw [jq3 (opt_no (num_not_name h2))]
   rw [e1,e2]
   exact ⟨rfl,fun _=>rfl⟩
  |false=>
   have e1:Rp.rspan s=Pr.bnd name (fun x=>Pr.ret ⟨0,false,x⟩) s:=by unfold Rp.rspan;rw [if_neg (by rw [h2];decide)]
   cases h1:isK 1 s with
   |true=>
    obtain ⟨t,r,hr,hk,_,ht,ho⟩:=take_yes h1
    have e2:span s=(⟨0,false,t.text⟩,{s with rest:=r}):=by unfold span;rw [jq3 ho];rfl
    have e3:name s=(t.text,{s with rest:=r}):=by simp [name,Pr.bnd,Pr.ret,ht]
    rw [e1,e2,jq3 e3]
    exact ⟨rfl,fun _=>rfl⟩
   |false=>
    have e2:span s=days s:=by unfold span;rw [jq3 (opt_no h1)]
    have e3:(days s).2=(fail s).2:=by
     unfold days
     rw [jq3 (num_no h2)]
     exact Stk.rdays 0 _ (jj7 s)
    rw [e1,e2,jq3 (name_no h1)]
    exact ⟨e3.symm,fun h=>absurd h (jj7 s)⟩
 ·rw [Stk.rspan s he,Built.span.stk s he]
  exact ⟨rfl,fun h=>absurd h he⟩
def rnames:M (List Bytes):=Pr.seq (expect [[40]]) (Pr.bnd (acc [41]) fun c=>if c then Pr.ret [] else Pr.bnd name fun x=>Pr.bnd (Pr.long namesMore) fun l=>namesEnd (x::l))
theorem Built.rnames:Built rnames:=Built.seq (Built.expect _) (Built.bnd (Built.acc _) fun _=>Built.ite (Built.ret _) (Built.bnd Built.name fun _=>Built.bnd (Built.long kq1 Built.namesMore) fun _=>Built.namesEnd _))
theorem isT_head {x:Bytes} {s:St} {t:Tok} {r:List Tok} (hr:s.rest=t::r) (he:s.err=0):isT x s=(t.text==x):=by simp [isT,hr,he]
theorem kq2 {x:Bytes} {s:St} (h:isT x s=false):acc x s=(false,s):=by simp [acc,h]
theorem jj8 {x:Bytes} {s:St} (h:isT x s=true):acc x s=(true,{s with rest:=s.rest.tail}):=by simp [acc,h]
theorem expect_no {x:Bytes} {s:St} (h:isT x s=false):(expect [x] s).2=(fail s).2:=by
 show (Pr.bnd (acc x) (fun b=>if b then Pr.ret () else fail) s).2=_
 rw [jq3 (kq2 h)];rfl
theorem expect_yes {x:Bytes} {s:St} (h:isT x s=true):expect [x] s=((),{s with rest:=s.rest.tail}):=by
 show Pr.bnd (acc x) (fun b=>if b then Pr.ret () else fail) s=_
 rw [jq3 (jj8 h)];rfl
theorem Ag.rnames:Ag rnames names:=by
 refine Ag.sames (Built.expect _) fun s hw=>?_
 have b1:Built (Pr.bnd (acc [41]) fun c=>if c then Pr.ret [] else Pr.bnd name fun x=>Pr.bnd (Pr.long namesMore) fun l=>namesEnd (x::l)):=Built.bnd (Built.acc _) fun _=>Built.ite (Built.ret _) (Built.bnd Built.name fun _=>Built.bnd (Built.long kq1 Built.namesMore) fun _=>Built.namesEnd _)
 by_cases he:s.err=0
 ·cases hp:isT [41] s with
  |true=>
   have h1:isK 1 s=false:=by
    cases hr:s.rest with
    |nil=>simp [isK,hr]
    |cons t r=>
     have e:=isT_head (x:= [41]) hr he
     rw [hp] at e
     have e:t.text= [41]:=by simpa using e.symm
     have hk:=hw t (by rw [hr];exact List.mem_cons_self ..)
     rcases hk with ⟨_,c,r',h3,h4⟩|⟨k,_⟩|⟨k,_⟩
     ·rw [e] at h3
      injection h3 with h3 _
      subst h3
      exact absurd h4 (by decide)
     ·simp [isK,hr,k]
     ·simp [isK,hr,k]
   have e2:namesEnd [] s=([],{s with rest:=s.rest.tail}):=by unfold namesEnd;rw [jx1 (expect_yes hp)];rfl
   rw [jq3 (jj8 hp),jq3 (opt_no h1),if_pos rfl]
   exact ⟨(congrArg Prod.snd e2).symm,fun _=>(congrArg Prod.fst e2).symm⟩
  |false=>
   rw [jq3 (kq2 hp)]
   cases h1:isK 1 s with
   |true=>
    obtain ⟨t,r,hr,hk,_,ht,ho⟩:=take_yes h1
    have e3:name s=(t.text,{s with rest:=r}):=by simp [name,Pr.bnd,Pr.ret,ht]
    rw [jq3 ho,if_neg (by decide),jq3 e3]
    exact ⟨rfl,fun _=>rfl⟩
   |false=>
    rw [jq3 (opt_no h1),if_neg (by decide),jq3 (name_no h1)]
    have e1:(Pr.bnd (Pr.long namesMore) (fun l=>namesEnd (([]:Bytes)::l)) (fail s).2).2=(fail s).2:=(Built.bnd (Built.long kq1 Built.namesMore) fun _=>Built.namesEnd _).stk _ (jj7 s)
    have e2:(namesEnd [] s).2=(fail s).2:=by
     show (Pr.bnd (expect [[41]]) (fun _=>Pr.ret ([]:List Bytes)) s).2=_
     show ((expect [[41]] s).2)=_
     exact expect_no hp
    rw [e1,e2]
    exact ⟨rfl,fun h=>absurd h (jj7 s)⟩
 ·have h2: ∀(f:Option Tok→M (List Bytes)),(∀o,Built (f o))→((Pr.bnd (opt 1) f) s).2=s:=fun f hf=>(Built.bnd (Built.opt 1) hf).stk s he
  rw [b1.stk s he,h2 _ (fun o=>by
   cases o
   ·exact Built.namesEnd _
   ·exact Built.bnd (Built.long kq1 Built.namesMore) fun _=>Built.namesEnd _)]
  exact ⟨rfl,fun h=>absurd h he⟩
def rvalue:M (Price×Bool):=fun s=>if isK 2 s then (Pr.bnd ratio fun r=>Pr.bnd name fun u=>priceEnd r u []) s else (Pr.bnd name fun c=>priceEnd ⟨0,0⟩ [] c) s
def rprice:M (Price×Bool):=Pr.bnd (acc [118,97,108,117,101]) fun v=>if v then rvalue else consEnd ⟨⟨0,0⟩,[],[],[]⟩
theorem Stk.rvalue:Stk rvalue:=Stk.num (Stk.of (Built.bnd Built.ratio fun _=>Built.bnd Built.name fun _=>Built.priceEnd _ _ _)) (Stk.of (Built.bnd Built.name fun _=>Built.priceEnd _ _ _))
theorem Stk.rprice:Stk rprice:=Stk.bnd (Stk.of (Built.acc _)) fun _=>Stk.ite Stk.rvalue (Stk.of (Built.consEnd _))
theorem Ag.rprice:Ag rprice cons:=by
 refine Ag.same (Built.acc _) fun v=>Ag.ite (fun s hw=>?_) (Ag.refl _)
 by_cases he:s.err=0
 ·cases h2:isK 2 s with
  |true=>
   have e1:Rp.rvalue s=(Pr.bnd ratio fun r=>Pr.bnd name fun u=>priceEnd r u []) s:=by unfold Rp.rvalue;rw [if_pos h2]
   rw [e1,jq3 (opt_no (num_not_name h2))]
   exact ⟨rfl,fun _=>rfl⟩
  |false=>
   have e1:Rp.rvalue s=(Pr.bnd name fun c=>priceEnd ⟨0,0⟩ [] c) s:=by unfold Rp.rvalue;rw [if_neg (by rw [h2];decide)]
   cases h1:isK 1 s with
   |true=>
    obtain ⟨t,r,hr,hk,_,ht,ho⟩:=take_yes h1
    have e3:name s=(t.text,{s with rest:=r}):=by simp [name,Pr.bnd,Pr.ret,ht]
    rw [e1,jq3 ho,jq3 e3]
    exact ⟨rfl,fun _=>rfl⟩
   |false=>
    have e3:((Pr.bnd ratio fun r=>Pr.bnd name fun u=>priceEnd r u []) s).2=(fail s).2:=by
     have e4:(ratio s).2=(fail s).2:=by
      unfold ratio
      rw [jq3 (num_no h2)]
      exact (Built.bnd (Built.acc _) fun _=>Built.ite (Built.bnd Built.number fun _=>Built.ret _) (Built.ret _)).stk _ (jj7 s)
     have:(Pr.bnd ratio fun r=>Pr.bnd name fun u=>priceEnd r u []) s=(fun r=>Pr.bnd name fun u=>priceEnd r u []) (ratio s).1 (ratio s).2:=rfl
     rw [this,e4]
     exact (Built.bnd Built.name fun _=>Built.priceEnd _ _ _).stk _ (jj7 s)
    rw [e1,jq3 (opt_no h1),jq3 (name_no h1)]
    refine ⟨?_,fun h=>?_⟩
    ·rw [(Built.priceEnd _ _ _).stk _ (jj7 s)];exact e3.symm
    ·rw [(Built.priceEnd _ _ _).stk _ (jj7 s)] at h;exact absurd h (jj7 s)
 ·have h2: ∀(f:Option Tok→M (Price×Bool)),(∀o,Built (f o))→((Pr.bnd (opt 1) f) s).2=s:=fun f hf=>(Built.bnd (Built.opt 1) hf).stk s he
  rw [Stk.rvalue s he,h2 _ (fun o=>by
   cases o
   ·exact Built.bnd Built.ratio fun _=>Built.bnd Built.name fun _=>Built.priceEnd _ _ _
   ·exact Built.priceEnd _ _ _)]
  exact ⟨rfl,fun h=>absurd h he⟩
def runit:M Flat:=Pr.bnd name fun n=>Pr.bnd (acc [103,111,111,100,115]) fun g=>if g then unitTail n 1 else Pr.seq (expect [[109,111,110,101,121]]) (unitTail n 2)
theorem Built.runit:Built runit:=Built.bnd Built.name fun _=>Built.bnd (Built.acc _) fun _=>Built.ite (Built.unitTail _ _) (Built.seq (Built.expect _) (Built.unitTail _ _))
theorem not_both {x y:Bytes} {s:St} (h:isT x s=true) (hxy:x≠y):isT y s=false:=by
 unfold isT at h ⊢
 cases hr:s.rest with
 |nil=>simp
 |cons t r=>
  rw [hr] at h
  simp only [Bool.and_eq_true,beq_iff_eq] at h
  simp only [h.1,h.2,Bool.and_eq_false_iff]
  exact .inr (beq_eq_false_iff_ne.2 hxy)
theorem Ag.runit:Ag runit unit:=by
 refine Ag.same Built.name fun n s hw=>?_
 have b1:Built (Pr.bnd (acc [103,111,111,100,115]) fun g=>if g then unitTail n 1 else Pr.seq (expect [[109,111,110,101,121]]) (unitTail n 2)):=Built.bnd (Built.acc _) fun _=>Built.ite (Built.unitTail _ _) (Built.seq (Built.expect _) (Built.unitTail _ _))
 cases hg:isT [103,111,111,100,115] s with
 |true=>
  have hm:=not_both (y:= [109,111,110,101,121]) hg (by decide)
  rw [jq3 (jj8 hg),jq3 (kq2 hm),if_pos rfl,if_neg (by decide),jx1 (expect_yes hg)]
  exact ⟨rfl,fun _=>rfl⟩
 |false=>
  rw [jq3 (kq2 hg),if_neg (by decide)]
  cases hm:isT [109,111,110,101,121] s with
  |true=>
   rw [jq3 (jj8 hm),if_pos rfl,jx1 (expect_yes hm)]
   exact ⟨rfl,fun _=>rfl⟩
  |false=>
   rw [jq3 (kq2 hm),if_neg (by decide)]
   have e1:(Pr.seq (expect [[109,111,110,101,121]]) (unitTail n 2) s).2=(fail s).2:=by
    show (unitTail n 2 (expect [[109,111,110,101,121]] s).2).2=_
    rw [expect_no hm]
    exact (Built.unitTail _ _).stk _ (jj7 s)
   have e2:(Pr.seq (expect [[103,111,111,100,115]]) (unitTail n 1) s).2=(fail s).2:=by
    show (unitTail n 1 (expect [[103,111,111,100,115]] s).2).2=_
    rw [expect_no hg]
    exact (Built.unitTail _ _).stk _ (jj7 s)
   rw [e1,e2]
   exact ⟨rfl,fun h=>absurd h (jj7 s)⟩
def rdutyEnd (n:Bytes) (oa:Bytes×Bytes) (times:Nat) (w gr:Span):M Flat:=Pr.bnd circ fun c=>Pr.bnd rprice fun q=>Pr.seq (expect [[59]])
  (Pr.ret {flat0 with kind:=9,name:=n,of_:=oa.1,act:=oa.2,times:=times,within:=w,grace:=gr,conds:=c.1,by_:=c.2.1,til:=c.2.2,num:=q.1.num,unit:=q.1.unit,sum:=q.1.sum,to_:=q.1.to_,fin:=q.2})
def rdutyTail (n:Bytes) (oa:Bytes×Bytes) (times:Nat):M Flat:=Pr.seq (expect [[119,105,116,104,105,110]]) (Pr.bnd rspan fun w=>Pr.bnd (acc [103,114,97,99,101]) fun g=>if g then Pr.bnd rspan fun gr=>rdutyEnd n oa times w gr else rdutyEnd n oa times w ⟨0,false,[]⟩)
def rduty:M Flat:=Pr.bnd name fun n=>Pr.bnd bearer fun oa=>Pr.bnd (opt 2) fun t=>match t with|some t=>Pr.seq (expect [[116,105,109,101,115]]) (rdutyTail n oa t.n)|none=>rdutyTail n oa 1
def rban:M Flat:=Pr.bnd name fun n=>Pr.bnd bearer fun oa=>Pr.seq (expect [[102,111,114]]) (Pr.bnd rspan fun w=>Pr.bnd circ fun c=>Pr.bnd rprice fun q=>Pr.seq (expect [[59]])
  (Pr.ret {flat0 with kind:=10,name:=n,of_:=oa.1,act:=oa.2,within:=w,conds:=c.1,by_:=c.2.1,til:=c.2.2,num:=q.1.num,unit:=q.1.unit,sum:=q.1.sum,to_:=q.1.to_,fin:=q.2}))
def roption:M Flat:=Pr.bnd name fun n=>Pr.bnd bearer fun oa=>Pr.seq (expect [[119,105,116,104,105,110]]) (Pr.bnd rspan fun w=>Pr.bnd circ fun c=>Pr.seq (expect [[59]])
  (Pr.ret {flat0 with kind:=11,name:=n,of_:=oa.1,act:=oa.2,within:=w,conds:=c.1,by_:=c.2.1,til:=c.2.2}))
def rwatch:M Flat:=Pr.bnd name fun n=>Pr.seq (expect [[58]]) (Pr.bnd name fun a=>Pr.seq (expect [[119,105,116,104,105,110]]) (Pr.bnd rspan fun w=>Pr.bnd circ fun c=>Pr.seq (expect [[59]])
  (Pr.ret {flat0 with kind:=12,name:=n,act:=a,within:=w,conds:=c.1,by_:=c.2.1,til:=c.2.2})))
def rincl:M Flat:=Pr.bnd name fun o=>Pr.seq (expect [[97,115]]) (Pr.bnd name fun n=>Pr.bnd rnames fun l=>Pr.seq (expect [[59]]) (Pr.ret {flat0 with kind:=14,name:=n,of_:=o,names:=l}))
theorem Stk.rdutyEnd (n:Bytes) (oa:Bytes×Bytes) (k:Nat) (w g:Span):Stk (rdutyEnd n oa k w g):=Stk.bnd (Stk.of Built.circ) fun _=>Stk.bnd Stk.rprice fun _=>Stk.seq (Stk.of (Built.expect _)) (Stk.ret _)
theorem Stk.rdutyTail (n:Bytes) (oa:Bytes×Bytes) (k:Nat):Stk (rdutyTail n oa k):=Stk.seq (Stk.of (Built.expect _)) (Stk.bnd Stk.rspan fun _=>Stk.bnd (Stk.of (Built.acc _)) fun _=>Stk.ite (Stk.bnd Stk.rspan fun _=>Stk.rdutyEnd _ _ _ _ _) (Stk.rdutyEnd _ _ _ _ _))
theorem Ag.rdutyEnd (n:Bytes) (oa:Bytes×Bytes) (k:Nat) (w g:Span):Ag (rdutyEnd n oa k w g) (dutyEnd n oa k w g):=
 Ag.same Built.circ fun _=>Ag.bnd Ag.rprice Built.cons (fun _=>Stk.seq (Stk.of (Built.expect _)) (Stk.ret _)) (fun _=>Stk.seq (Stk.of (Built.expect _)) (Stk.ret _)) fun _=>Ag.refl _
theorem Ag.rdutyTail (n:Bytes) (oa:Bytes×Bytes) (k:Nat):Ag (rdutyTail n oa k) (dutyTail n oa k):=
 Ag.sames (Built.expect _) (Ag.bnd Ag.rspan Built.span (fun _=>Stk.bnd (Stk.of (Built.acc _)) fun _=>Stk.ite (Stk.bnd Stk.rspan fun _=>Stk.rdutyEnd _ _ _ _ _) (Stk.rdutyEnd _ _ _ _ _))
  (fun _=>Stk.of (Built.bnd (Built.acc _) fun _=>Built.ite (Built.bnd Built.span fun _=>Built.dutyEnd _ _ _ _ _) (Built.dutyEnd _ _ _ _ _)))
  fun _=>Ag.same (Built.acc _) fun _=>Ag.ite (Ag.bnd Ag.rspan Built.span (fun _=>Stk.rdutyEnd _ _ _ _ _) (fun _=>Stk.of (Built.dutyEnd _ _ _ _ _)) fun _=>Ag.rdutyEnd _ _ _ _ _) (Ag.rdutyEnd _ _ _ _ _))
theorem Ag.rduty:Ag rduty duty:=Ag.same Built.name fun n=>Ag.same Built.bearer fun oa=>Ag.same (Built.opt 2) fun o=>by
 cases o
 ·exact Ag.rdutyTail _ _ _
 ·exact Ag.sames (Built.expect _) (Ag.rdutyTail _ _ _)
theorem Ag.rban:Ag rban ban:=Ag.same Built.name fun n=>Ag.same Built.bearer fun oa=>Ag.sames (Built.expect _) (Ag.bnd Ag.rspan Built.span
 (fun _=>Stk.bnd (Stk.of Built.circ) fun _=>Stk.bnd Stk.rprice fun _=>Stk.seq (Stk.of (Built.expect _)) (Stk.ret _)) (fun _=>Stk.of (Built.bnd Built.circ fun _=>Built.bnd Built.cons fun _=>Built.seq (Built.expect _) (Built.ret _)))
 fun _=>Ag.same Built.circ fun _=>Ag.bnd Ag.rprice Built.cons (fun _=>Stk.seq (Stk.of (Built.expect _)) (Stk.ret _)) (fun _=>Stk.seq (Stk.of (Built.expect _)) (Stk.ret _)) fun _=>Ag.refl _)
theorem Ag.roption:Ag roption option:=Ag.same Built.name fun n=>Ag.same Built.bearer fun oa=>Ag.sames (Built.expect _) (Ag.bnd Ag.rspan Built.span
 (fun _=>Stk.of (Built.bnd Built.circ fun _=>Built.seq (Built.expect _) (Built.ret _))) (fun _=>Stk.of (Built.bnd Built.circ fun _=>Built.seq (Built.expect _) (Built.ret _))) fun _=>Ag.refl _)
theorem Ag.rwatch:Ag rwatch watch:=Ag.same Built.name fun n=>Ag.sames (Built.expect _) (Ag.same Built.name fun a=>Ag.sames (Built.expect _) (Ag.bnd Ag.rspan Built.span
 (fun _=>Stk.of (Built.bnd Built.circ fun _=>Built.seq (Built.expect _) (Built.ret _))) (fun _=>Stk.of (Built.bnd Built.circ fun _=>Built.seq (Built.expect _) (Built.ret _))) fun _=>Ag.refl _))
theorem Ag.rincl:Ag rincl incl:=Ag.same Built.name fun o=>Ag.sames (Built.expect _) (Ag.same Built.name fun n=>Ag.bnd Ag.rnames Built.names
 (fun _=>Stk.of (Built.seq (Built.expect _) (Built.ret _))) (fun _=>Stk.of (Built.seq (Built.expect _) (Built.ret _))) fun _=>Ag.refl _)
def rweekMore:Nat→List Bool→M (List Bool)
 |0,l=>Pr.ret l
 |f+1,l=>Pr.bnd weekday fun d=>Pr.bnd (acc [44]) fun b=>if b then rweekMore f (l.set d true) else Pr.ret (l.set d true)
def rweekend:M Flat:=Pr.bnd (Pr.long fun f=>rweekMore f flat0.days) fun l=>Pr.seq (expect [[59]]) (Pr.ret {flat0 with kind:=4,days:=l})
theorem Stk.rweekMore (n:Nat): ∀l,Stk (rweekMore n l):=by
 induction n with
 |zero=>exact fun l=>Stk.ret _
 |succ n ih=>exact fun l=>Stk.bnd (Stk.of Built.weekday) fun _=>Stk.bnd (Stk.of (Built.acc _)) fun _=>Stk.ite (ih _) (Stk.ret _)
theorem week_ag (k:List Bool→Flat): ∀(f:Nat) (l:List Bool) (s:St),s.rest.length<f→
  ((Pr.bnd (rweekMore f l) fun l=>Pr.seq (expect [[59]]) (Pr.ret (k l))) s).2=((Pr.bnd (weekendMore f l) fun l=>Pr.ret (k l)) s).2∧(((Pr.bnd (rweekMore f l) fun l=>Pr.seq (expect [[59]]) (Pr.ret (k l))) s).2.err=0→((Pr.bnd (rweekMore f l) fun l=>Pr.seq (expect [[59]]) (Pr.ret (k l))) s).1=((Pr.bnd (weekendMore f l) fun l=>Pr.ret (k l)) s).1)
 |0,l,s,h=>absurd h (Nat.not_lt_zero _)
 |f+1,l,s,h=>by
  have e1:(Pr.bnd (rweekMore (f+1) l) fun l=>Pr.seq (expect [[59]]) (Pr.ret (k l))) s=(Pr.bnd (acc [44]) fun b=>Pr.bnd (if b then rweekMore f (l.set (weekday s).1 true) else Pr.ret (l.set (weekday s).1 true)) fun l=>Pr.seq (expect [[59]]) (Pr.ret (k l))) (weekday s).2:=rfl
  have e2:(Pr.bnd (weekendMore (f+1) l) fun l=>Pr.ret (k l)) s=(k (weekendMore (f+1) l s).1,(weekendMore (f+1) l s).2):=rfl
  have hm:=Mono.weekday s
  by_cases he:(weekday s).2.err=0
  ·cases hc:isT [44] (weekday s).2 with
   |true=>
    have ha:=jj8 hc
    have hl:=(jk3 (x:= [44]) (s:=(weekday s).2) (by rw [ha])).1
    rw [ha] at hl
    have ih:=week_ag k f (l.set (weekday s).1 true) {(weekday s).2 with rest:=(weekday s).2.rest.tail} (by
     have hl:(weekday s).2.rest.tail.length+1=(weekday s).2.rest.length:=hl
     show (weekday s).2.rest.tail.length<f
     omega)
    have e3:(Pr.bnd (weekendMore (f+1) l) fun l=>Pr.ret (k l)) s=(Pr.bnd (weekendMore f (l.set (weekday s).1 true)) fun l=>Pr.ret (k l)) {(weekday s).2 with rest:=(weekday s).2.rest.tail}:=by
     rw [e2,jz9,if_pos he,ha,if_pos rfl]
     rfl
    rw [e1,jq3 ha,if_pos rfl,e3]
    exact ih
   |false=>
    have ha:=kq2 hc
    have e3:(Pr.bnd (weekendMore (f+1) l) fun l=>Pr.ret (k l)) s=(k (l.set (weekday s).1 true),(expect [[59]] (weekday s).2).2):=by
     rw [e2,jz9,if_pos he,ha]
     rfl
    rw [e1,jq3 ha,if_neg (by decide),e3]
    exact ⟨rfl,fun _=>rfl⟩
  ·have e3:((Pr.bnd (weekendMore (f+1) l) fun l=>Pr.ret (k l)) s).2=(weekday s).2:=by
    rw [e2,jz9,if_neg he]
   have e4:((Pr.bnd (acc [44]) fun b=>Pr.bnd (if b then rweekMore f (l.set (weekday s).1 true) else Pr.ret (l.set (weekday s).1 true)) fun l=>Pr.seq (expect [[59]]) (Pr.ret (k l))) (weekday s).2).2=(weekday s).2:=
    Stk.bnd (Stk.of (Built.acc _)) (fun _=>Stk.bnd (Stk.ite (Stk.rweekMore _ _) (Stk.ret _)) fun _=>Stk.seq (Stk.of (Built.expect _)) (Stk.ret _)) _ he
   rw [e1,e3,e4]
   exact ⟨rfl,fun h=>absurd h he⟩
theorem Ag.rweekend:Ag rweekend weekend:=fun s hw=>week_ag (fun l=> {flat0 with kind:=4,days:=l}) (s.rest.length+1) flat0.days s (Nat.lt_succ_self _)
theorem Stk.rweekend:Stk rweekend:=Stk.bnd (Stk.long fun n=>Stk.rweekMore n _) fun _=>Stk.seq (Stk.of (Built.expect _)) (Stk.ret _)
def rwords:List (Bytes×Nat):= [([112,97,114,116,121],1),([114,111,108,101],2),([117,110,105,116],3),([119,101,101,107,101,110,100],4),([104,111,108,105,100,97,121],5),([115,112,97,110],6),([115,117,109],7),([97,99,116],8),([100,117,116,121],9),([98,97,110],10),([111,112,116,105,111,110],11),([119,97,116,99,104],12),([116,101,109,112,108,97,116,101],13),([105,110,99,108,117,100,101],14)]
def okIn (inner:Bool) (k:Nat):Bool:=!inner||(decide (9≤k)&&k !=13)
def rkind (inner:Bool) (s:St):List (Bytes×Nat)→Nat
 | []=>0
 |p::r=>if isT p.1 s&&okIn inner p.2 then p.2 else rkind inner s r
def rkT (inner:Bool) (x:Bytes):List (Bytes×Nat)→Nat
 | []=>0
 |p::r=>if x==p.1&&okIn inner p.2 then p.2 else rkT inner x r
def rstart (inner:Bool):M (Option (Nat×Nat)):=fun s=>if rkind inner s rwords=0 then (none,(fail s).2) else
 if s.items=600 then (none,{s with err:=3}) else (some (rkind inner s rwords,match s.rest with| []=>0|t::_=>t.pos),{rest:=s.rest.tail,items:=s.items+1,err:=0})
def rbody (k:Nat):M Flat:=match k with
 |1=>party|2=>role|3=>runit|4=>rweekend|5=>holiday|6=>spanDef|7=>sumDef|8=>act|9=>rduty|10=>rban|11=>roption|12=>rwatch|_=>rincl
def hpos (s:St):Nat:=match s.rest with| []=>0|t::_=>t.pos
def rlost (i:Bool) (s:St):Flat:= {flat0 with kind:=rkind i s rwords,pos:=if rkind i s rwords=0 then 0 else hpos s}
def rflat (i:Bool):M Flat:=fun s=>match rstart i s with
 |(none,s')=>(rlost i s,s')
 |(some kp,s')=>Pr.bnd (rbody kp.1) (fun f=>Pr.ret {f with pos:=kp.2}) s'
def rinner:M Flat:=rflat true
def rtmplMore:Nat→M (List Flat)
 |0=>Pr.ret []
 |f+1=>Pr.bnd good fun g=>if g then Pr.bnd (acc [125]) fun b=>if b then Pr.ret [] else Pr.bnd rinner fun x=>Pr.bnd (rtmplMore f) fun l=>Pr.ret (x::l) else Pr.ret []
def rtemplate:M Pr.Item:=Pr.bnd name fun n=>Pr.bnd rnames fun l=>Pr.seq (expect [[123]]) (Pr.bnd (Pr.long rtmplMore) fun xs=>Pr.ret ⟨{flat0 with kind:=13,name:=n,names:=l},xs⟩)
def ritem:M Pr.Item:=fun s=>match rstart false s with
 |(none,s')=>(⟨rlost false s,[]⟩,s')
 |(some kp,s')=>if kp.1=13 then Pr.bnd rtemplate (fun x=>Pr.ret ⟨{x.flat with pos:=kp.2},x.inner⟩) s' else Pr.bnd (rbody kp.1) (fun f=>Pr.ret ⟨{f with pos:=kp.2},[]⟩) s'
def ritemsMore:Nat→M (List Pr.Item)
 |0=>Pr.ret []
 |f+1=>Pr.bnd more fun g=>if g then Pr.bnd ritem fun x=>Pr.bnd (ritemsMore f) fun l=>Pr.ret (x::l) else Pr.ret []
def rheader:M Pr.Source:=Pr.seq (expect [[99,111,110,116,114,97,99,116]]) (Pr.bnd name fun n=>Pr.seq (expect [[102,114,111,109]]) (Pr.bnd date fun d=>Pr.seq (expect [[102,111,114]]) (Pr.bnd number fun k=>Pr.seq (expect [[100,97,121,115]]) (Pr.seq (expect [[59]]) (Pr.ret ⟨n,d,k,[]⟩)))))
def rsource:M Pr.Source:=Pr.bnd rheader fun h=>Pr.bnd (Pr.long ritemsMore) fun l=>Pr.ret {h with items:=l}
def rparse (text:Bytes):Except (Nat×Int) Pr.Source:=
 match Lx.lex text with
 | .error e=> .error e
 | .ok ts=>if (rsource ⟨ts,0,0⟩).2.err=0 then .ok (rsource ⟨ts,0,0⟩).1 else .error ((rsource ⟨ts,0,0⟩).2.err,(atOf text.length (rsource ⟨ts,0,0⟩).2:Nat))
theorem rstart_none {i:Bool} {s s':St} (h:rstart i s=(none,s')):s'.err≠0:=by
 unfold rstart at h
 split at h
 ·injection h with _ h;subst h;exact jj7 s
 ·split at h
  ·injection h with _ h;subst h;simp
  ·injection h with h _;cases h
theorem Stk.rstart (i:Bool):Stk (rstart i):=fun s hs=>by
 have h0: ∀l,rkind i s l=0:=by
  intro l
  induction l with
  |nil=>rfl
  |cons p r ih=>unfold rkind;rw [isT_stk hs];exact ih
 unfold Rp.rstart
 rw [if_pos (h0 _)]
 exact fail_stk s hs
theorem rstart_eq (i:Bool) (s:St) (hw:Wts s):rstart i s=Pr.start (if i then innerWords else allWords) s:=by
 by_cases he:s.err=0
 ·cases hr:s.rest with
  |nil=>
   have h0: ∀l,rkind i s l=0:=by
    intro l
    induction l with
    |nil=>rfl
    |cons p r ih=>unfold rkind;rw [show isT p.1 s=false by simp [isT,hr]];exact ih
   unfold Rp.rstart Pr.start
   rw [if_pos (h0 _),if_neg (by simp [isK,hr])]
  |cons t r=>
   have hT: ∀x,isT x s=(t.text==x):=fun x=>isT_head hr he
   have hk:=hw t (by rw [hr];exact List.mem_cons_self ..)
   obtain ⟨kd,hkd⟩: ∃k,rkind i s rwords=k:=⟨_,rfl⟩
   have hlook:kd=0∧(isK 1 s=false∨(if i then innerWords else allWords).lookup t.text=none)∨kd≠0∧isK 1 s=true∧(if i then innerWords else allWords).lookup t.text=some kd:=by
    by_cases h1:t.kind=1
    ·have hk1:isK 1 s=true:=by simp [isK,hr,he,h1]
     have hrk: ∀l,rkind i s l=rkT i t.text l:=by
      intro l
      induction l with
      |nil=>rfl
      |cons p r ih=>unfold rkind rkT;rw [hT,ih]
     rw [←hkd,hrk]
     by_cases c1:t.text= [112,97,114,116,121]
     ·rw [c1,hk1];cases i<;>decide
     by_cases c2:t.text= [114,111,108,101]
     ·rw [c2,hk1];cases i<;>decide
     by_cases c3:t.text= [117,110,105,116]
     ·rw [c3,hk1];cases i<;>decide
     by_cases c4:t.text= [119,101,101,107,101,110,100]
     ·rw [c4,hk1];cases i<;>decide
     by_cases c5:t.text= [104,111,108,105,100,97,121]
     ·rw [c5,hk1];cases i<;>decide
     by_cases c6:t.text= [115,112,97,110]
     ·rw [c6,hk1];cases i<;>decide
     by_cases c7:t.text= [115,117,109]
     ·rw [c7,hk1];cases i<;>decide
     by_cases c8:t.text= [97,99,116]
     ·rw [c8,hk1];cases i<;>decide
     by_cases c9:t.text= [100,117,116,121]
     ·rw [c9,hk1];cases i<;>decide
     by_cases c10:t.text= [98,97,110]
     ·rw [c10,hk1];cases i<;>decide
     by_cases c11:t.text= [111,112,116,105,111,110]
     ·rw [c11,hk1];cases i<;>decide
     by_cases c12:t.text= [119,97,116,99,104]
     ·rw [c12,hk1];cases i<;>decide
     by_cases c13:t.text= [116,101,109,112,108,97,116,101]
     ·rw [c13,hk1];cases i<;>decide
     by_cases c14:t.text= [105,110,99,108,117,100,101]
     ·rw [c14,hk1];cases i<;>decide
     refine .inl ⟨?_,.inr ?_⟩
     ·simp [rwords,rkT,c1,c2,c3,c4,c5,c6,c7,c8,c9,c10,c11,c12,c13,c14]
     ·have hn: ∀(l:List (Bytes×Nat)),(∀p∈l,t.text≠p.1)→l.lookup t.text=none:=by
       intro l
       induction l with
       |nil=>intro _;rfl
       |cons p q ih=>
        intro h
        unfold List.lookup
        rw [show (t.text==p.1)=false from beq_eq_false_iff_ne.2 (h p (List.mem_cons_self ..))]
        exact ih (fun z hz=>h z (List.mem_cons_of_mem _ hz))
      refine hn _ ?_
      cases i<;>simp [allWords,innerWords,c1,c2,c3,c4,c5,c6,c7,c8,c9,c10,c11,c12,c13,c14]
    ·have hk1:isK 1 s=false:=by simp [isK,hr,h1]
     refine .inl ⟨?_,.inl hk1⟩
     have hne: ∀p∈rwords,t.text≠p.1:=by
      intro p hp e
      rcases hk with ⟨k,_⟩|⟨_,c,r',h3,h4⟩|⟨_,c,h3,h4⟩
      ·exact h1 k
      ·rw [e] at h3
       simp only [rwords,List.mem_cons,List.not_mem_nil,or_false] at hp
       rcases hp with rfl|rfl|rfl|rfl|rfl|rfl|rfl|rfl|rfl|rfl|rfl|rfl|rfl|rfl<;>(injection h3 with h3 _;subst h3;exact absurd h4 (by decide))
      ·rw [e] at h3
       simp only [rwords,List.mem_cons,List.not_mem_nil,or_false] at hp
       rcases hp with rfl|rfl|rfl|rfl|rfl|rfl|rfl|rfl|rfl|rfl|rfl|rfl|rfl|rfl<;>(injection h3 with _ h3;cases h3)
     have h0: ∀l,(∀p∈l,t.text≠p.1)→rkind i s l=0:=by
      intro l
      induction l with
      |nil=>intro _;rfl
      |cons p q ih=>
       intro h
       unfold rkind
       rw [hT,show (t.text==p.1)=false from beq_eq_false_iff_ne.2 (h p (List.mem_cons_self ..))]
       exact ih (fun z hz=>h z (List.mem_cons_of_mem _ hz))
     rw [←hkd]
     exact h0 _ hne
   unfold Rp.rstart Pr.start
   rw [hkd,hr]
   rcases hlook with ⟨h0,h1⟩|⟨h0,h1,h2⟩
   ·rw [if_pos h0]
    rcases h1 with h1|h1
    ·rw [if_neg (by rw [h1];decide)]
    ·simp only [h1]
     split<;>rfl
   ·rw [if_neg h0,if_pos h1]
    simp only [h2]
    rfl
 ·have e1:isK 1 s=false:=isK_stk he
  have h0: ∀l,rkind i s l=0:=by
   intro l
   induction l with
   |nil=>rfl
   |cons p r ih=>unfold rkind;rw [isT_stk he];exact ih
  unfold Rp.rstart Pr.start
  rw [if_pos (h0 _),if_neg (by rw [e1];decide)]
theorem Ag.rstart (i:Bool):Ag (rstart i) (Pr.start (if i then innerWords else allWords)):=fun s hw=>by rw [rstart_eq i s hw];exact ⟨rfl,fun _=>rfl⟩
theorem Stk.rbody (k:Nat):Stk (rbody k):=by
 unfold Rp.rbody
 split
 ·exact Stk.of Built.party
 ·exact Stk.of Built.role
 ·exact Stk.of Built.runit
 ·exact Stk.rweekend
 ·exact Stk.of Built.holiday
 ·exact Stk.of Built.spanDef
 ·exact Stk.of Built.sumDef
 ·exact Stk.of Built.act
 ·exact Stk.bnd (Stk.of Built.name) fun _=>Stk.bnd (Stk.of Built.bearer) fun _=>Stk.bnd (Stk.of (Built.opt 2)) fun o=>by
   cases o
   ·exact Stk.rdutyTail _ _ _
   ·exact Stk.seq (Stk.of (Built.expect _)) (Stk.rdutyTail _ _ _)
 ·exact Stk.bnd (Stk.of Built.name) fun _=>Stk.bnd (Stk.of Built.bearer) fun _=>Stk.seq (Stk.of (Built.expect _)) (Stk.bnd Stk.rspan fun _=>Stk.bnd (Stk.of Built.circ) fun _=>Stk.bnd Stk.rprice fun _=>Stk.seq (Stk.of (Built.expect _)) (Stk.ret _))
 ·exact Stk.bnd (Stk.of Built.name) fun _=>Stk.bnd (Stk.of Built.bearer) fun _=>Stk.seq (Stk.of (Built.expect _)) (Stk.bnd Stk.rspan fun _=>Stk.bnd (Stk.of Built.circ) fun _=>Stk.seq (Stk.of (Built.expect _)) (Stk.ret _))
 ·exact Stk.bnd (Stk.of Built.name) fun _=>Stk.seq (Stk.of (Built.expect _)) (Stk.bnd (Stk.of Built.name) fun _=>Stk.seq (Stk.of (Built.expect _)) (Stk.bnd Stk.rspan fun _=>Stk.bnd (Stk.of Built.circ) fun _=>Stk.seq (Stk.of (Built.expect _)) (Stk.ret _)))
 ·exact Stk.bnd (Stk.of Built.name) fun _=>Stk.seq (Stk.of (Built.expect _)) (Stk.bnd (Stk.of Built.name) fun _=>Stk.bnd (Stk.of Built.rnames) fun _=>Stk.seq (Stk.of (Built.expect _)) (Stk.ret _))
theorem Ag.rbody: ∀k:Nat,Ag (rbody k) (Pr.body k)
 |0=>Ag.rincl
 |1=>Ag.refl _
 |2=>Ag.refl _
 |3=>Ag.runit
 |4=>Ag.rweekend
 |5=>Ag.refl _
 |6=>Ag.refl _
 |7=>Ag.refl _
 |8=>Ag.refl _
 |9=>Ag.rduty
 |10=>Ag.rban
 |11=>Ag.roption
 |12=>Ag.rwatch
 |n+13=>Ag.rincl
theorem rstart_err {i:Bool} {s s':St} {kp:Nat×Nat} (h:Rp.rstart i s=(some kp,s')):s.err=0:=by
 by_cases he:s.err=0
 ·exact he
 ·have h0: ∀l,rkind i s l=0:=by
   intro l
   induction l with
   |nil=>rfl
   |cons p r ih=>unfold rkind;rw [isT_stk he];exact ih
  unfold Rp.rstart at h
  rw [if_pos (h0 _)] at h
  injection h with h _;cases h
theorem Stk.rflat (i:Bool):Stk (rflat i):=fun s hs=>by
 have h2:=Stk.rstart i s hs
 unfold Rp.rflat
 cases hr:Rp.rstart i s with
 |mk o s'=>
  cases o with
  |none=>rw [hr] at h2;exact h2
  |some kp=>exact absurd (rstart_err hr) hs
theorem Stk.rinner:Stk rinner:=Stk.rflat true
theorem Ag.rinner:Ag rinner Pr.inner:=fun s hw=>by
 have e:=rstart_eq true s hw
 have e:Rp.rstart true s=Pr.start innerWords s:=e
 show (Rp.rflat true s).2=_∧((Rp.rflat true s).2.err=0→(Rp.rflat true s).1=_)
 unfold Rp.rflat Pr.inner
 cases hr:Rp.rstart true s with
 |mk o s'=>
  rw [hr] at e
  rw [jq3 e.symm]
  cases o with
  |none=>exact ⟨rfl,fun h=>absurd h (rstart_none hr)⟩
  |some kp=>
   have hw':Wts s':=by have:=wts_of (Built.start innerWords) hw;rw [←e] at this;exact this
   exact Ag.bnd (Ag.rbody _) (Built.body _) (fun _=>Stk.ret _) (fun _=>Stk.ret _) (fun _=>Ag.refl _) s' hw'
theorem Stk.rtmplMore (n:Nat):Stk (rtmplMore n):=by
 induction n with
 |zero=>exact Stk.ret _
 |succ n ih=>exact Stk.bnd (Stk.of Built.good) fun _=>Stk.ite (Stk.bnd (Stk.of (Built.acc _)) fun _=>Stk.ite (Stk.ret _) (Stk.bnd Stk.rinner fun _=>Stk.bnd ih fun _=>Stk.ret _)) (Stk.ret _)
theorem Ag.rtmplMore (n:Nat):Ag (rtmplMore n) (tmplMore n):=by
 induction n with
 |zero=>exact Ag.refl _
 |succ n ih=>exact Ag.same Built.good fun _=>Ag.ite (Ag.same (Built.acc _) fun _=>Ag.ite (Ag.refl _) (Ag.bnd Ag.rinner Built.inner (fun _=>Stk.bnd (Stk.rtmplMore n) fun _=>Stk.ret _) (fun _=>Stk.of (Built.bnd (Built.tmplMore n) fun _=>Built.ret _)) fun _=>Ag.bnd ih (Built.tmplMore n) (fun _=>Stk.ret _) (fun _=>Stk.ret _) fun _=>Ag.refl _)) (Ag.refl _)
theorem Stk.rtemplate:Stk rtemplate:=Stk.bnd (Stk.of Built.name) fun _=>Stk.bnd (Stk.of Built.rnames) fun _=>Stk.seq (Stk.of (Built.expect _)) (Stk.bnd (Stk.long Stk.rtmplMore) fun _=>Stk.ret _)
theorem Ag.rtemplate:Ag rtemplate Pr.template:=Ag.same Built.name fun _=>Ag.bnd Ag.rnames Built.names (fun _=>Stk.seq (Stk.of (Built.expect _)) (Stk.bnd (Stk.long Stk.rtmplMore) fun _=>Stk.ret _))
 (fun _=>Stk.of (Built.seq (Built.expect _) (Built.bnd (Built.long tmpl_fueled Built.tmplMore) fun _=>Built.ret _)))
 fun _=>Ag.sames (Built.expect _) (Ag.bnd (Ag.long Ag.rtmplMore) (Built.long tmpl_fueled Built.tmplMore) (fun _=>Stk.ret _) (fun _=>Stk.ret _) fun _=>Ag.refl _)
theorem Stk.ritem:Stk ritem:=fun s hs=>by
 have h2:=Stk.rstart false s hs
 unfold Rp.ritem
 cases hr:Rp.rstart false s with
 |mk o s'=>
  cases o with
  |none=>rw [hr] at h2;exact h2
  |some kp=>exact absurd (rstart_err hr) hs
theorem Ag.ritem:Ag ritem Pr.item:=fun s hw=>by
 have e:=rstart_eq false s hw
 have e:Rp.rstart false s=Pr.start allWords s:=e
 unfold Rp.ritem Pr.item
 cases hr:Rp.rstart false s with
 |mk o s'=>
  rw [hr] at e
  rw [jq3 e.symm]
  cases o with
  |none=>exact ⟨rfl,fun h=>absurd h (rstart_none hr)⟩
  |some kp=>
   have hw':Wts s':=by have:=wts_of (Built.start allWords) hw;rw [←e] at this;exact this
   by_cases h13:kp.1=13
   ·simp only [if_pos h13]
    exact Ag.bnd Ag.rtemplate Built.template (fun _=>Stk.ret _) (fun _=>Stk.ret _) (fun _=>Ag.refl _) s' hw'
   ·simp only [if_neg h13]
    exact Ag.bnd (Ag.rbody _) (Built.body _) (fun _=>Stk.ret _) (fun _=>Stk.ret _) (fun _=>Ag.refl _) s' hw'
theorem Stk.ritemsMore (n:Nat):Stk (ritemsMore n):=by
 induction n with
 |zero=>exact Stk.ret _
 |succ n ih=>exact Stk.bnd (fun _ _=>rfl) fun _=>Stk.ite (Stk.bnd Stk.ritem fun _=>Stk.bnd ih fun _=>Stk.ret _) (Stk.ret _)
theorem Stk.itemsMore (n:Nat):Stk (itemsMore n):=by
 induction n with
 |zero=>exact Stk.ret _
 |succ n ih=>exact Stk.bnd (fun _ _=>rfl) fun _=>Stk.ite (Stk.bnd (Stk.of Built.item) fun _=>Stk.bnd ih fun _=>Stk.ret _) (Stk.ret _)
theorem items_suf (n:Nat): ∀s,Wts s→Wts (itemsMore n s).2:=by
 induction n with
 |zero=>exact fun s hw=>hw
 |succ n ih=>
  intro s hw
  by_cases he:s.err≠0∨s.rest= []
  ·rw [kq3 _ _ he];exact hw
  ·have he1:s.err=0:=by by_cases h0:s.err=0;exact h0;exact absurd (.inl h0) he
   have he2:s.rest≠ []:=fun h0=>he (.inr h0)
   rw [kx6 _ _ he1 he2]
   exact ih _ (wts_of Built.item hw)
theorem Ag.ritemsMore (n:Nat):Ag (ritemsMore n) (itemsMore n):=by
 induction n with
 |zero=>exact Ag.refl _
 |succ n ih=>
  intro s hw
  show ((if (s.err==0&&!s.rest.isEmpty) then Pr.bnd Rp.ritem fun x=>Pr.bnd (Rp.ritemsMore n) fun l=>Pr.ret (x::l) else Pr.ret []) s).2=((if (s.err==0&&!s.rest.isEmpty) then Pr.bnd Pr.item fun x=>Pr.bnd (itemsMore n) fun l=>Pr.ret (x::l) else Pr.ret []) s).2∧(((if (s.err==0&&!s.rest.isEmpty) then Pr.bnd Rp.ritem fun x=>Pr.bnd (Rp.ritemsMore n) fun l=>Pr.ret (x::l) else Pr.ret []) s).2.err=0→((if (s.err==0&&!s.rest.isEmpty) then Pr.bnd Rp.ritem fun x=>Pr.bnd (Rp.ritemsMore n) fun l=>Pr.ret (x::l) else Pr.ret []) s).1=((if (s.err==0&&!s.rest.isEmpty) then Pr.bnd Pr.item fun x=>Pr.bnd (itemsMore n) fun l=>Pr.ret (x::l) else Pr.ret []) s).1)
  refine Ag.ite (Ag.bnd Ag.ritem Built.item (fun _=>Stk.bnd (Stk.ritemsMore n) fun _=>Stk.ret _) (fun _=>Stk.bnd (Stk.itemsMore n) fun _=>Stk.ret _) fun x s hw=>?_) (Ag.refl _) s hw
  obtain ⟨h1,h2⟩:=ih s hw
  exact ⟨h1,fun h=>congrArg (x:: ·) (h2 h)⟩
theorem expect_two (x y:Bytes) (s:St):(Pr.expect [x,y] s).2=(Pr.expect [y] (Pr.expect [x] s).2).2:=by
 cases h:isT x s with
 |true=>
  rw [expect_yes h]
  show (Pr.bnd (acc x) (fun b=>if b then Pr.expect [y] else fail) s).2=_
  rw [jq3 (jj8 h)];rfl
 |false=>
  rw [expect_no h]
  show (Pr.bnd (acc x) (fun b=>if b then Pr.expect [y] else fail) s).2=_
  rw [jq3 (kq2 h),(Built.expect [y]).stk _ (jj7 s)];rfl
theorem header_eq (s:St):rheader s=Pr.header s:=by
 have key: ∀(a:Pr.Source) (s:St),Pr.seq (Pr.expect [[100,97,121,115]]) (Pr.seq (Pr.expect [[59]]) (Pr.ret a)) s=Pr.seq (Pr.expect [[100,97,121,115],[59]]) (Pr.ret a) s:=fun a s=>by
  show (a,(Pr.expect [[59]] (Pr.expect [[100,97,121,115]] s).2).2)=(a,(Pr.expect [[100,97,121,115],[59]] s).2)
  rw [expect_two]
 have key2: ∀(a:Nat→Pr.Source),(Pr.bnd number fun k=>Pr.seq (Pr.expect [[100,97,121,115]]) (Pr.seq (Pr.expect [[59]]) (Pr.ret (a k))))=(Pr.bnd number fun k=>Pr.seq (Pr.expect [[100,97,121,115],[59]]) (Pr.ret (a k))):=fun a=>by
  funext s
  exact key _ _
 unfold rheader Pr.header
 simp only [key2]
theorem Ag.rsource:Ag rsource Pr.source:=fun s hw=>by
 show ((Pr.bnd rheader fun h=>Pr.bnd (Pr.long Rp.ritemsMore) fun l=>Pr.ret {h with items:=l}) s).2=((Pr.bnd Pr.header fun h=>Pr.bnd (Pr.long itemsMore) fun l=>Pr.ret {h with items:=l}) s).2∧(((Pr.bnd rheader fun h=>Pr.bnd (Pr.long Rp.ritemsMore) fun l=>Pr.ret {h with items:=l}) s).2.err=0→((Pr.bnd rheader fun h=>Pr.bnd (Pr.long Rp.ritemsMore) fun l=>Pr.ret {h with items:=l}) s).1=((Pr.bnd Pr.header fun h=>Pr.bnd (Pr.long itemsMore) fun l=>Pr.ret {h with items:=l}) s).1)
 have e:rheader=Pr.header:=funext header_eq
 rw [e]
 refine Ag.same Built.header (fun h s hw=>?_) s hw
 obtain ⟨h1,h2⟩:=Ag.ritemsMore (s.rest.length+1) s hw
 exact ⟨h1,fun he=>congrArg (fun l=>({h with items:=l}:Pr.Source)) (h2 he)⟩
theorem rparse_eq (text:Bytes):rparse text=Pr.parse text:=by
 unfold rparse Pr.parse
 cases hl:Lx.lex text with
 |error e=>rfl
 |ok ts=>
  obtain ⟨h1,h2⟩:=Ag.rsource ⟨ts,0,0⟩ (lex_wt hl)
  dsimp only
  by_cases he:(rsource ⟨ts,0,0⟩).2.err=0
  ·rw [if_pos he,if_pos (by rw [←h1];exact he),h2 he]
  ·rw [if_neg he,if_neg (by rw [←h1];exact he),h1]
end Go.Proofs.YtfaflipphkoiiaaDoor.Rp
