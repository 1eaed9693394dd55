/-
  Lexing the printer's text gives the printed words. No condition. Parsing the words of a printed item gives the item, apart from its offset. No condition. Parsing the words of a printed item gives the item, apart from its offset: each kind of item. No condition. Parsing the words of a printed item gives the item, apart from its offset: clauses, inclusions, templates; the lines of a tree. No condition. Parsing the printer's text gives the tree that was printed, apart from the offsets of items. No condition but that each item's weekend has seven days.
-/
import Derived.Test.YtfficindoecpfaaGreatDoorPkPriP
import Derived.Test.YtfficindoecpfaaGreatDoorPkLexB
import Derived.Test.YtfficindoecpfaaGreatDoorPriRs
set_option linter.unusedVariables false
set_option linter.unusedSimpArgs false
namespace Go.Proofs.YtfficindoecpfaaGreatDoor.Pt
open Rs Ic
def tkey (t:Lx.Tok):Nat×Bytes×Nat:=(t.kind,t.text,t.n)
def tkOf (x:Bytes):Lx.Tok:=match Lx.tokOf x with| .ok (k,_,v)=>⟨k,x,v,0⟩| .error _=>⟨0,x,0,0⟩
theorem tkOf_text (x:Bytes):(tkOf x).text=x:=by unfold tkOf;split<;>rfl
theorem tok_name {x:Bytes} (h:isName x=true):Lx.tokOf x= .ok (1,x.length,0):=by
 unfold isName at h
 simp only [Bool.and_eq_true,decide_eq_true_eq] at h
 obtain ⟨⟨h1,h2⟩,h3⟩:=h
 cases x with
 |nil=>cases h1
 |cons c l=>
  have h1:Lx.isLetter c=true:=h1
  show (if Lx.isLetter c then _ else _)=_
  rw [if_pos h1,h3,if_neg (by omega)]
theorem digits_all (n:Nat): ∀c∈Lib.decDigits n,Lx.isDigit c=true:=by
 have hd: ∀n:Fin 10,Lx.isDigit (UInt8.ofNat (48+n.val))=true:=by decide
 induction n using Nat.strongRecOn with
 |ind n ih=>
  rw [Lib.decDigits]
  split
  ·next h=>intro c hc;rw [List.mem_singleton.1 hc];exact hd ⟨n,h⟩
  ·next h=>
   intro c hc
   rcases List.mem_append.1 hc with hc|hc
   ·exact ih (n/10) (by omega) c hc
   ·rw [List.mem_singleton.1 hc];exact hd ⟨n%10,Nat.mod_lt n (by decide)⟩
theorem digits_val (n:Nat):Lx.valFrom 0 (Lib.decDigits n)=n:=by
 have hd: ∀n:Fin 10,(UInt8.ofNat (48+n.val)).toNat-48=n.val:=by decide
 induction n using Nat.strongRecOn with
 |ind n ih=>
  rw [Lib.decDigits]
  split
  ·next h=>
   rw [Lx.valFrom_cons,Lx.valFrom_nil]
   unfold Lx.digStep
   have:=hd ⟨n,h⟩
   dsimp only at this
   omega
  ·next h=>
   rw [Lx.valFrom_snoc,ih (n/10) (by omega)]
   have:=hd ⟨n%10,Nat.mod_lt n (by decide)⟩
   dsimp only at this
   omega
theorem numLen_all (l:Bytes) (h: ∀c∈l,Lx.isDigit c=true):Lx.numLen l=l.length:=by
 induction l with
 |nil=>rfl
 |cons c l ih=>
  unfold Lx.numLen
  rw [if_pos (h c (List.mem_cons_self ..)),ih (fun d hd=>h d (List.mem_cons_of_mem _ hd))]
  rfl
theorem digits_len (k:Nat): ∀n:Nat,n<10^(k+1)→(Lib.decDigits n).length≤k+1:=by
 induction k with
 |zero=>intro n h;rw [Lib.decDigits,dif_pos (by omega)];simp
 |succ k ih=>
  intro n h
  rw [Lib.decDigits]
  split
  ·simp
  ·rw [List.length_append]
   have:=ih (n/10) (by rw [Nat.pow_succ] at h;omega)
   simp only [List.length_cons,List.length_nil]
   omega
theorem digits_ne (n:Nat):Lib.decDigits n≠ []:=(decDigits_tok n).1
theorem tok_dec {n:Nat} (h:n≤999999999999):Lx.tokOf (Lib.decDigits n)= .ok (2,(Lib.decDigits n).length,n):=by
 have h1:=digits_all n
 have h2:=numLen_all _ h1
 have h3:=digits_len 11 n (by omega)
 have h4:=digits_val n
 have h5:=digits_ne n
 generalize Lib.decDigits n=x at*
 cases x with
 |nil=>exact absurd rfl h5
 |cons c l=>
  have hc:=h1 c (List.mem_cons_self ..)
  have hl:Lx.isLetter c=false:=by
   cases e:Lx.isLetter c with
   |false=>rfl
   |true=>
    unfold Lx.isLetter at e
    unfold Lx.isDigit at hc
    simp at e hc
    omega
  show (if Lx.isLetter c then _ else if Lx.isDigit c then _ else _)=_
  have h3:l.length+1≤12:=h3
  rw [hl,if_neg (by decide),if_pos hc,h2,if_neg (by rw [List.drop_length];simp [Lx.wordAt];omega),List.take_length,h4]
theorem tok_sym {c:UInt8} (h:Lx.isSym c=true) (r:Bytes):Lx.tokOf (c::r)= .ok (3,1,0):=by
 have h1:=sym_cases h
 have h2: ∀c∈Lx.syms,Lx.isLetter c=false∧Lx.isDigit c=false:=by decide
 obtain ⟨h3,h4⟩:=h2 c h1
 show (if Lx.isLetter c then _ else if Lx.isDigit c then _ else if Lx.isSym c then _ else _)=_
 rw [h3,h4,if_neg (by decide),if_neg (by decide),if_pos h]
theorem One.tok {x:Bytes} (h:One x): ∃k v,Lx.tokOf x= .ok (k,x.length,v):=by
 rcases h with h|⟨n,hn,rfl⟩|⟨c,rfl,hc⟩
 ·exact ⟨_,_,tok_name h⟩
 ·exact ⟨_,_,tok_dec hn⟩
 ·exact ⟨_,_,tok_sym hc []⟩
def TK (xs:List Bytes) (l:Bytes):Prop:= ∀p,∃ts,Lx.Toks ts l p∧ts.map tkey=xs.map fun x=>tkey (tkOf x)
theorem TK.nil:TK [] []:=fun p=>⟨[],rfl,rfl⟩
theorem TK.gap {xs:List Bytes} {l:Bytes} {c:UInt8} (hc:c.toNat=32∨c.toNat=9∨c.toNat=10) (h:TK xs l):TK xs (c::l):=fun p=>by
 obtain ⟨ts,h1,h2⟩:=h (p+1)
 refine ⟨ts,Lx.toks_congr ?_ ?_ h1,h2⟩
 ·unfold Lx.skip;rw [Lx.gapLen_blank c l hc];rfl
 ·rw [Lx.gapLen_blank c l hc];omega
theorem gap_tok {x:Bytes} (h:TokB x) (r:Bytes):Lx.gapLen false (x++r)=0:=by
 cases x with
 |nil=>exact absurd rfl h.1
 |cons c l=>
  obtain ⟨h1,h2,h3,h4⟩:=h.2 c (List.mem_cons_self ..)
  have hn: ∀d:UInt8,c≠d→c.toNat≠d.toNat:=fun d hd e=>hd (UInt8.toNat_inj.1 e)
  exact Lx.gapLen_other c _ (hn 32 h4) (hn 9 h1) (hn 10 h3) (hn 35 h2)
theorem TK.cons {x r:Bytes} {xs:List Bytes} (hx:One x) (h1:Lx.tokOf (x++r)=Lx.tokOf x) (h:TK xs r):TK (x::xs) (x++r):=fun p=>by
 obtain ⟨k,v,ht⟩:=hx.tok
 have hg:=gap_tok hx.tokB r
 obtain ⟨ts,h2,h3⟩:=h (p+x.length)
 have hs:Lx.skip (x++r)=x++r:=by unfold Lx.skip;rw [hg];rfl
 refine ⟨⟨k,x,v,p⟩::ts,?_,?_⟩
 ·simp only [Lx.Toks,hs,hg]
  refine ⟨by rw [h1,ht],by rw [List.take_left],rfl,?_⟩
  rw [List.drop_left]
  exact h2
 ·rw [List.map_cons,List.map_cons,h3]
  congr 1
  unfold tkOf
  rw [ht]
  rfl
theorem contains_all {s x:Bytes} (h:Lib.contains s x=true): ∀c∈x,c∈s:=by
 have h:0≤Lib.index s x:=by unfold Lib.contains at h;simpa using h
 rcases Lib.index_spec s x with ⟨h1,_⟩|⟨i,_,_,h3,_⟩
 ·omega
 ·intro c hc
  unfold Lib.occAt at h3
  have h4:=List.isPrefixOf_iff_prefix.1 h3
  exact List.mem_of_mem_drop (h4.subset hc)
theorem one_head {x:Bytes} (h:One x): ∃c l,x=c::l:=by
 cases x with
 |nil=>exact absurd rfl h.tokB.1
 |cons c l=>exact ⟨c,l,rfl⟩
theorem tok_sep {x y:Bytes} {r:Bytes} (hx:One x) (hy:One y):Lx.tokOf (x++(sepOf x y++(y++r)))=Lx.tokOf x:=by
 obtain ⟨c,l,rfl⟩:=one_head hx
 unfold sepOf
 by_cases hj:joined (c::l) y=true
 ·rw [if_pos hj,List.nil_append]
  unfold joined at hj
  rw [Bool.or_eq_true,Bool.or_eq_true] at hj
  rcases hj with (hj|hj)|hj
  ·cases hj
  ·obtain ⟨d,m,rfl⟩:=one_head hy
   have hd:=contains_all hj d (List.mem_cons_self ..)
   have he: ∀d∈ [59,58,44,40,41,47,45],Lx.isWord d=false∧d.toNat≠46:=by decide
   exact Lx.tokOf_app (c::l) d (m++r) (he d hd) (by simp)
  ·have hc:=contains_all hj c (List.mem_cons_self ..)
   have he: ∀d∈ [40,47,45],Lx.isLetter d=false∧Lx.isDigit d=false∧Lx.isSym d=true:=by decide
   obtain ⟨h1,h2,h3⟩:=he c hc
   have e:l= []:=by
    rcases hx with hx|⟨n,hn,hx⟩|⟨d,hx,hd⟩
    ·unfold isName at hx
     simp only [Bool.and_eq_true] at hx
     rw [h1] at hx
     exact absurd hx.1.1 (by decide)
    ·have:=digits_all n c (by rw [←hx];exact List.mem_cons_self ..)
     rw [h2] at this;cases this
    ·injection hx with _ hx
   subst e
   exact (tok_sym h3 _).trans (tok_sym h3 []).symm
 ·rw [if_neg hj]
  exact Lx.tokOf_app (c::l) 32 (y++r) Lx.ends32 (by simp)
theorem TK.line: ∀(l:List Bytes) (last r:Bytes) (xs:List Bytes),(∀x∈l,One x)→TK xs r→TK (l++xs) (lineText last l++10::r)
 | [],_,r,xs,_,h=>h.gap (.inr (.inr rfl))
 |x::l,last,r,xs,hl,h=>by
  have ih:=TK.line l x r xs (fun y hy=>hl y (List.mem_cons_of_mem _ hy)) h
  have hx:=hl x (List.mem_cons_self ..)
  have e:lineText last (x::l)++10::r=sepOf last x++(x++(lineText x l++10::r)):=by
   show (sepOf last x++x++lineText x l)++10::r=_
   simp only [List.append_assoc]
  rw [e]
  have h2:TK (x::(l++xs)) (x++(lineText x l++10::r)):=by
   refine TK.cons hx ?_ ih
   cases l with
   |nil=>exact Lx.tokOf_app x 10 r Lx.ends10 hx.tokB.1
   |cons y l=>
    have e2:lineText x (y::l)++10::r=sepOf x y++(y++(lineText y l++10::r)):=by
     show (sepOf x y++y++lineText y l)++10::r=_
     simp only [List.append_assoc]
    rw [e2]
    exact tok_sep hx (hl y (List.mem_cons_of_mem _ (List.mem_cons_self ..)))
  unfold sepOf
  split
  ·exact h2
  ·exact h2.gap (.inl rfl)
theorem TK.text: ∀(ls:List Line),(∀l∈ls,∀x∈l.2,One x)→TK (ls.flatMap (·.2)) (textOf ls)
 | [],_=>TK.nil
 |l::ls,h=>by
  have ih:=TK.text ls (fun m hm=>h m (List.mem_cons_of_mem _ hm))
  have h1:=TK.line l.2 [] (textOf ls) _ (h l (List.mem_cons_self ..)) ih
  have e:textOf (l::ls)=(if l.1 then [32,32] else [])++(lineText [] l.2++10::textOf ls):=by
   show ((if l.1 then [32,32] else [])++lineText [] l.2++ [10])++textOf ls=_
   simp only [List.append_assoc,List.cons_append,List.nil_append]
  rw [e,List.flatMap_cons]
  split
  ·exact (h1.gap (.inl rfl)).gap (.inl rfl)
  ·exact h1
theorem toks_flat (ls:List Line):(ls.flatMap (·.2)).length=toksOf ls:=by
 unfold toksOf
 rw [List.length_flatMap]
theorem lex_text (ls:List Line) (h: ∀l∈ls,∀x∈l.2,One x) (h1:(textOf ls).length≤20000) (h2:toksOf ls≤5000): ∃ts,Lx.lex (textOf ls)= .ok ts∧ts.map tkey=(ls.flatMap (·.2)).map fun x=>tkey (tkOf x):=by
 obtain ⟨ts,h3,h4⟩:=TK.text ls h 0
 have h5:ts.length=toksOf ls:=by
  have:=congrArg List.length h4
  rw [List.length_map,List.length_map,toks_flat] at this
  exact this
 exact ⟨ts,Lx.toks_lex h3 h1 (by omega),h4⟩
end Go.Proofs.YtfficindoecpfaaGreatDoor.Pt
namespace Go.Proofs.YtfficindoecpfaaGreatDoor.Pt
open Rs Ic
open Lx (Tok)
def nx (ts:List Tok):Bytes:=match ts with| []=> [] |t::_=>t.text
def Kd (x:Bytes):Nat×Bytes×Nat:=tkey (tkOf x)
def Run {α:Type} (N:List Bytes) (m:Pr.M α) (xs:List Bytes) (a:α):Prop:=
 ∀(ts r:List Tok) (it:Nat),ts.map tkey=xs.map Kd→nx r∉N→m ⟨ts++r,it,0⟩=(a,⟨r,it,0⟩)
def Fol (N M:List Bytes):List Bytes→Prop
 | []=> ∀x∈N,x∈M
 |y::_=>y∉N
instance (N M l:List Bytes):Decidable (Fol N M l):=match l with| []=>inferInstanceAs (Decidable (∀x∈N,x∈M))|y::_=>inferInstanceAs (Decidable (y∉N))
theorem Kd_text (x:Bytes):(Kd x).2.1=x:=tkOf_text x
theorem kz8 {t:Tok} {x:Bytes} (h:tkey t=Kd x):t.text=x:=by
 have:=congrArg (fun k=>k.2.1) h
 exact this.trans (Kd_text x)
theorem jj0 {ts:List Tok} {x:Bytes} {xs:List Bytes} (h:ts.map tkey=(x::xs).map Kd): ∃t us,ts=t::us∧tkey t=Kd x∧us.map tkey=xs.map Kd:=by
 cases ts with
 |nil=>cases h
 |cons t us=>
  rw [List.map_cons,List.map_cons] at h
  injection h with h1 h2
  exact ⟨t,us,rfl,h1,h2⟩
theorem keys_nil {ts:List Tok} (h:ts.map tkey=([]:List Bytes).map Kd):ts= []:=by
 cases ts with
 |nil=>rfl
 |cons t us=>cases h
theorem Run.bnd {α β:Type} {N M:List Bytes} {m:Pr.M α} {f:α→Pr.M β} {xs ys:List Bytes} {a:α} {b:β} (h1:Run N m xs a) (h2:Run M (f a) ys b) (hf:Fol N M ys):Run M (Pr.bnd m f) (xs++ys) b:=fun ts r it h hr=>by
 rw [List.map_append] at h
 obtain ⟨t1,t2,rfl,e1,e2⟩:=List.map_eq_append_iff.1 h
 have h3:nx (t2++r)∉N:=by
  cases ys with
  |nil=>rw [keys_nil e2];exact fun hn=>hr (hf _ hn)
  |cons y ys=>
   obtain ⟨t,us,rfl,e,_⟩:=jj0 e2
   show t.text∉N
   rw [kz8 e]
   exact hf
 rw [List.append_assoc]
 exact (Pr.jq8 (h1 t1 (t2++r) it e1 h3)).trans (h2 t2 r it e2 hr)
theorem Run.seq {α β:Type} {N M:List Bytes} {m:Pr.M α} {f:Pr.M β} {xs ys:List Bytes} {a:α} {b:β} (h1:Run N m xs a) (h2:Run M f ys b) (hf:Fol N M ys):Run M (Pr.seq m f) (xs++ys) b:=Run.bnd (f:=fun _=>f) h1 h2 hf
theorem Run.ret {α:Type} (N:List Bytes) (a:α):Run N (Pr.ret a) [] a:=fun ts r it h _=>by rw [keys_nil h];rfl
theorem Run.wide {α:Type} {N M:List Bytes} {m:Pr.M α} {xs:List Bytes} {a:α} (h:Run N m xs a) (hs: ∀x∈N,x∈M):Run M m xs a:=fun ts r it e hr=>h ts r it e (fun hn=>hr (hs _ hn))
theorem acc_T (x:Bytes) (t:Tok) (us:List Tok) (it:Nat):Pr.acc x ⟨t::us,it,0⟩=if t.text=x then (true,⟨us,it,0⟩) else (false,⟨t::us,it,0⟩):=by
 unfold Pr.acc Pr.isT
 by_cases h:t.text=x
 ·rw [if_pos h];simp [h]
 ·rw [if_neg h];simp [h]
theorem Run.yes0 (N:List Bytes) (x:Bytes):Run N (Pr.acc x) [x] true:=fun ts r it h _=>by
 obtain ⟨t,us,rfl,e,e2⟩:=jj0 h
 rw [keys_nil e2]
 show Pr.acc x ⟨t::r,it,0⟩=_
 rw [acc_T,if_pos (kz8 e)]
theorem Run.no0 (x:Bytes):Run [x] (Pr.acc x) [] false:=fun ts r it h hr=>by
 rw [keys_nil h]
 cases r with
 |nil=>rfl
 |cons t r=>
  show Pr.acc x ⟨t::r,it,0⟩=_
  rw [acc_T,if_neg (fun e=>hr (by show t.text∈ [x];rw [e];exact List.mem_singleton.2 rfl))]
theorem Run.yes {β:Type} {M:List Bytes} {f:Bool→Pr.M β} {x:Bytes} {ys:List Bytes} {b:β} (h:Run M (f true) ys b):Run M (Pr.bnd (Pr.acc x) f) (x::ys) b:=Run.bnd (N:= []) (Run.yes0 [] x) h (by cases ys<;>simp [Fol])
theorem Run.no {β:Type} {M:List Bytes} {f:Bool→Pr.M β} {x:Bytes} {ys:List Bytes} {b:β} (hf:Fol [x] M ys) (h:Run M (f false) ys b):Run M (Pr.bnd (Pr.acc x) f) ys b:=Run.bnd (Run.no0 x) h hf
theorem Run.exp {β:Type} {M:List Bytes} {g:Pr.M β} {x:Bytes} {ys:List Bytes} {b:β} (h:Run M g ys b):Run M (Pr.seq (Pr.expect [x]) g) (x::ys) b:=by
 have h1:Run [] (Pr.expect [x]) ([x]++ []) ():=Run.bnd (N:= []) (M:= []) (a:=true) (f:=fun b=>if b=true then Pr.expect [] else Pr.fail) (Run.yes0 [] x) (Run.ret [] ()) (by intro x hx;exact hx)
 exact Run.seq (xs:= [x]) h1 h (by cases ys<;>simp [Fol])
theorem opt_T (k:Nat) (t:Tok) (us:List Tok) (it:Nat):Pr.opt k ⟨t::us,it,0⟩=if t.kind=k then (some t,⟨us,it,0⟩) else (none,⟨t::us,it,0⟩):=by
 unfold Pr.opt Pr.isK
 by_cases h:t.kind=k
 ·rw [if_pos h];simp [h]
 ·rw [if_neg h];simp [h]
theorem tk_name {x:Bytes} (h:isName x=true):tkOf x=⟨1,x,0,0⟩:=by unfold tkOf;rw [tok_name h]
theorem tk_dec {n:Int} (h:0≤n∧n≤999999999999):tkOf (dec n)=⟨2,dec n,n.toNat,0⟩:=by
 rw [dec_nat h.1]
 unfold tkOf
 rw [tok_dec (n:=n.toNat) (by omega)]
theorem Run.opt1 {β:Type} {M:List Bytes} {f:Option Tok→Pr.M β} {x:Bytes} {ys:List Bytes} {b:β} (hx:isName x=true) (h: ∀t:Tok,t.text=x→Run M (f (some t)) ys b):Run M (Pr.bnd (Pr.opt 1) f) (x::ys) b:=fun ts r it e hr=>by
 obtain ⟨t,us,rfl,e1,e2⟩:=jj0 e
 have hk:t.kind=1:=by have:=congrArg (fun k=>k.1) e1;unfold Kd at this;rw [tk_name hx] at this;exact this
 have h1:=opt_T 1 t (us++r) it
 rw [if_pos hk] at h1
 exact (Pr.jq8 h1).trans (h t (kz8 e1) us r it e2 hr)
theorem Run.opt2 {β:Type} {M:List Bytes} {f:Option Tok→Pr.M β} {n:Int} {ys:List Bytes} {b:β} (hn:0≤n∧n≤999999999999) (h: ∀t:Tok,t.n=n.toNat→Run M (f (some t)) ys b):Run M (Pr.bnd (Pr.opt 2) f) (dec n::ys) b:=fun ts r it e hr=>by
 obtain ⟨t,us,rfl,e1,e2⟩:=jj0 e
 unfold Kd at e1
 rw [tk_dec hn] at e1
 have hk:t.kind=2:=congrArg (fun k=>k.1) e1
 have h1:=opt_T 2 t (us++r) it
 rw [if_pos hk] at h1
 exact (Pr.jq8 h1).trans (h t (congrArg (fun k=>k.2.2) e1) us r it e2 hr)
theorem Run.optno {β:Type} {M:List Bytes} {f:Option Tok→Pr.M β} {k:Nat} {y:Bytes} {ys:List Bytes} {b:β} (hk:(tkOf y).kind≠k) (h:Run M (f none) (y::ys) b):Run M (Pr.bnd (Pr.opt k) f) (y::ys) b:=fun ts r it e hr=>by
 obtain ⟨t,us,rfl,e1,e2⟩:=jj0 e
 have h2:t.kind≠k:=by have:=congrArg (fun k=>k.1) e1;rw [show t.kind=(tkOf y).kind from this];exact hk
 have h1:=opt_T k t (us++r) it
 rw [if_neg h2] at h1
 exact (Pr.jq8 h1).trans (h (t::us) r it e hr)
theorem bnd_assoc {α β γ:Type} (m:Pr.M α) (f:α→Pr.M β) (g:β→Pr.M γ):Pr.bnd (Pr.bnd m f) g=Pr.bnd m fun a=>Pr.bnd (f a) g:=rfl
theorem Run.name {β:Type} {M:List Bytes} {f:Bytes→Pr.M β} {x:Bytes} {ys:List Bytes} {b:β} (hx:isName x=true) (h:Run M (f x) ys b):Run M (Pr.bnd Pr.name f) (x::ys) b:=by
 show Run M (Pr.bnd (Pr.bnd (Pr.bnd (Pr.opt 1) fun o=>match o with|some t=>Pr.ret t|none=>Pr.seq Pr.fail (Pr.ret Pr.tok0)) fun t=>Pr.ret t.text) f) _ _
 rw [bnd_assoc,bnd_assoc]
 exact Run.opt1 hx (fun t e=>by show Run M (f t.text) ys b;rw [e];exact h)
theorem Run.num {β:Type} {M:List Bytes} {f:Nat→Pr.M β} {n:Int} {ys:List Bytes} {b:β} (hn:0≤n∧n≤999999999999) (h:Run M (f n.toNat) ys b):Run M (Pr.bnd Pr.number f) (dec n::ys) b:=by
 show Run M (Pr.bnd (Pr.bnd (Pr.bnd (Pr.opt 2) fun o=>match o with|some t=>Pr.ret t|none=>Pr.seq Pr.fail (Pr.ret Pr.tok0)) fun t=>Pr.ret t.n) f) _ _
 rw [bnd_assoc,bnd_assoc]
 exact Run.opt2 hn (fun t e=>by show Run M (f t.n) ys b;rw [e];exact h)
theorem Run.long {α:Type} {N:List Bytes} {m:Nat→Pr.M α} {xs:List Bytes} {a:α} (h: ∀k,xs.length<k→Run N (m k) xs a):Run N (Pr.long m) xs a:=fun ts r it e hr=>by
 have hl:ts.length=xs.length:=by have:=congrArg List.length e;simpa using this
 exact h _ (by show xs.length<(ts++r).length+1;rw [List.length_append];omega) ts r it e hr
theorem Fol.app {N M l ys:List Bytes} (h1:l= []→Fol N M ys) (h2: ∀y z,l=y::z→y∉N):Fol N M (l++ys):=by
 cases l with
 |nil=>exact h1 rfl
 |cons y z=>exact h2 y z rfl
theorem jz4 {x:Bytes} {l:List Bytes} (h:name x=some l):isName x=true∧l= [x]:=by
 unfold name at h
 split at h
 ·next e=>injection h with h;exact ⟨e,h.symm⟩
 ·cases h
theorem jv8 {n:Int} {l:List Bytes} (h:number n=some l):(0≤n∧n≤999999999999)∧l= [dec n]:=by
 unfold number at h
 split at h
 ·next e=>injection h with h;exact ⟨e,h.symm⟩
 ·cases h
theorem jx4 {w l:List Bytes} (h:ok w=some l):l=w:=by injection h with h;exact h.symm
theorem name_not {x:Bytes} (h:isName x=true) {y:Bytes} (hy:isName y=false):x≠y:=fun e=>by rw [e,hy] at h;cases h
theorem ratio_run {r:Ratio} {l:List Bytes} (h:(cat (number r.num) ((if r.den=1 then ok [] else cat (ok [[47]]) (number r.den))))=some l):Run [[47]] Pr.ratio l ⟨r.num.toNat,r.den.toNat⟩∧0≤r.num∧0≤r.den:=by
 obtain ⟨a,b,h1,h2,rfl⟩:=jq4 h
 obtain ⟨hn,rfl⟩:=jv8 h1
 by_cases hd:r.den=1
 ·rw [if_pos hd] at h2
  rw [jx4 h2,hd]
  exact ⟨Run.num hn (Run.no (by intro x hx;exact hx) (Run.ret _ _)),hn.1,by omega⟩
 ·rw [if_neg hd] at h2
  obtain ⟨c,d,h3,h4,rfl⟩:=jq4 h2
  obtain ⟨hm,rfl⟩:=jv8 h4
  rw [jx4 h3]
  exact ⟨Run.num hn (Run.yes (Run.num (f:=fun d=>Pr.ret (⟨r.num.toNat,d⟩:Pr.Ratio)) hm (Run.ret _ _))),hn.1,hm.1⟩
theorem amount_run {β:Type} {M:List Bytes} {r:Ratio} {u:Bytes} {l ys:List Bytes} {f:Pr.Ratio→Bytes→Pr.M β} {b:β} (h:amount r u=some l) (hr:Run M (f ⟨r.num.toNat,r.den.toNat⟩ u) ys b):Run M (Pr.bnd Pr.ratio fun q=>Pr.bnd Pr.name fun v=>f q v) (l++ys) b:=by
 obtain ⟨a,c,h1,h2,rfl⟩:=jq4 h
 obtain ⟨d,e,h3,h4,rfl⟩:=jq4 h2
 obtain ⟨hu,rfl⟩:=jz4 h4
 have h5:(cat (number r.num) ((if r.den=1 then ok [] else cat (ok [[47]]) (number r.den))))=some (a++d):=by rw [h1,h3];rfl
 rw [←List.append_assoc,List.append_assoc]
 exact Run.bnd (ratio_run h5).1 (Run.name hu hr) (by show u∉_;rw [List.mem_singleton];exact name_not hu (by decide))
theorem amount_nn {r:Ratio} {u:Bytes} {l:List Bytes} (h:amount r u=some l):0≤r.num∧0≤r.den:=by
 obtain ⟨a,c,h1,h2,rfl⟩:=jq4 h
 obtain ⟨d,e,h3,h4,rfl⟩:=jq4 h2
 have h5:(cat (number r.num) ((if r.den=1 then ok [] else cat (ok [[47]]) (number r.den))))=some (a++d):=by rw [h1,h3];rfl
 exact (ratio_run h5).2
theorem amount_num {r:Ratio} {u:Bytes} {l:List Bytes} (h:amount r u=some l): ∃z,(0≤r.num∧r.num≤999999999999)∧l=dec r.num::z:=by
 obtain ⟨a,c,h1,h2,rfl⟩:=jq4 h
 obtain ⟨hn,rfl⟩:=jv8 h1
 exact ⟨c,hn,rfl⟩
theorem date_run {c:Civil} {l:List Bytes} (h:date c=some l):Run [] Pr.date l ⟨c.y.toNat,c.m.toNat,c.d.toNat⟩∧0≤c.y∧0≤c.m∧0≤c.d:=by
 obtain ⟨a1,b1,h1,h_1,rfl⟩:=jq4 h
 obtain ⟨a2,b2,h2,h_2,rfl⟩:=jq4 h_1
 obtain ⟨a3,b3,h3,h_3,rfl⟩:=jq4 h_2
 obtain ⟨a4,a5,h4,h5,rfl⟩:=jq4 h_3
 obtain ⟨n1,rfl⟩:=jv8 h1
 obtain ⟨n2,rfl⟩:=jv8 h3
 obtain ⟨n3,rfl⟩:=jv8 h5
 rw [jx4 h2,jx4 h4]
 exact ⟨Run.num n1 (Run.exp (Run.num n2 (Run.exp (Run.num n3 (Run.ret _ _))))),n1.1,n2.1,n3.1⟩
theorem days_run {s:Span} {l:List Bytes} (h:daysT s=some l):Run [] Pr.days l ⟨s.days.toNat,s.bus,[]⟩∧(0≤s.days∧s.days≤999999999999)∧ ∃z,l=dec s.days::z:=by
 obtain ⟨a1,b1,h1,h_1,rfl⟩:=jq4 h
 obtain ⟨a2,b2,h2,h3,rfl⟩:=jq4 h_1
 obtain ⟨n1,rfl⟩:=jv8 h1
 rw [jx4 h3]
 refine ⟨?_,n1,_,rfl⟩
 cases hb:s.bus with
 |true=>
  rw [hb,if_pos rfl] at h2
  rw [jx4 h2]
  exact Run.num n1 (Run.yes (Run.exp (Run.ret _ _)))
 |false=>
  rw [hb,if_neg (by decide)] at h2
  rw [jx4 h2]
  exact Run.num n1 (Run.no (show [100,97,121,115]∉ [[98,117,115,105,110,101,115,115]] by decide) (Run.exp (Run.ret _ _)))
theorem span_run {s:Span} {l:List Bytes} (h:span s=some l) (hs:spanLeft s=span0):Run [] Pr.span l ⟨s.days.toNat,s.bus,s.name⟩∧0≤s.days:=by
 unfold span at h
 unfold spanLeft at hs
 by_cases hn:s.name= []
 ·rw [if_pos hn] at h
  obtain ⟨h1,h2,z,rfl⟩:=days_run h
  rw [hn]
  refine ⟨?_,h2.1⟩
  exact Run.optno (by rw [tk_dec h2];show (2:Nat)≠1;decide) h1
 ·rw [if_neg hn] at h hs
  obtain ⟨h1,rfl⟩:=jz4 h
  have e1:s.days=0:=congrArg Span.days hs
  have e2:s.bus=false:=congrArg Span.bus hs
  rw [e1,e2]
  exact ⟨Run.opt1 h1 (fun t e=>by show Run [] (Pr.ret (⟨0,false,t.text⟩:Pr.Span)) [] _;rw [e];exact Run.ret _ _),by omega⟩
theorem names_more: ∀(ns:List Bytes) (l:List Bytes),commas name false ns=some l→ ∀k,l.length<k→Run [[44]] (Pr.namesMore k) l ns
 | [],l,h,k,hk=>by
  rw [jx4 h]
  obtain ⟨k,rfl⟩: ∃j,k=j+1:=⟨k-1,by omega⟩
  exact Run.no (fun x hx=>hx) (Run.ret _ _)
 |x::ns,l,h,k,hk=>by
  obtain ⟨c,d,h1,h_1,rfl⟩:=jq4 h
  rw [if_neg (by decide)] at h1
  obtain ⟨e,g,h2,h3,rfl⟩:=jq4 h_1
  obtain ⟨hx,rfl⟩:=jz4 h2
  rw [jx4 h1] at hk ⊢
  obtain ⟨k,rfl⟩: ∃j,k=j+1:=⟨k-1,by omega⟩
  have ih:=names_more ns g h3 k (by simp only [List.length_append,List.length_cons,List.length_nil] at hk;omega)
  have h4:Run [[44]] (Pr.bnd (Pr.namesMore k) fun l=>Pr.ret (x::l)) (g++ []) (x::ns):=Run.bnd ih (Run.ret _ _) (fun x hx=>hx)
  rw [List.append_nil] at h4
  exact Run.yes (Run.name (f:=fun x=>Pr.bnd (Pr.namesMore k) fun l=>Pr.ret (x::l)) hx h4)
theorem names_run {ns:List Bytes} {l:List Bytes} (h:namesT ns=some l):Run [] Pr.names l ns:=by
 obtain ⟨a1,b1,h1,h_1,rfl⟩:=jq4 h
 obtain ⟨a2,a3,h2,h3,rfl⟩:=jq4 h_1
 rw [jx4 h1,jx4 h3]
 cases ns with
 |nil=>
  rw [jx4 h2]
  exact Run.exp (Run.optno (by decide) (Run.exp (Run.ret _ _)))
 |cons x ns=>
  obtain ⟨c,d,h4,h9,rfl⟩:=jq4 h2
  rw [if_pos rfl] at h4
  obtain ⟨e,g,h5,h6,rfl⟩:=jq4 h9
  obtain ⟨hx,rfl⟩:=jz4 h5
  rw [jx4 h4]
  have h7:Run [] (Pr.bnd (Pr.long Pr.namesMore) fun l=>Pr.namesEnd (x::l)) (g++ [[41]]) (x::ns):=Run.bnd (Run.long (fun k hk=>names_more ns g h6 k hk)) (Run.exp (Run.ret _ _)) (by decide)
  have h8:=Run.exp (x:= [40]) (M:= []) (g:=Pr.bnd (Pr.opt 1) fun o=>match o with|some t=>Pr.bnd (Pr.long Pr.namesMore) fun l=>Pr.namesEnd (t.text::l)|none=>Pr.namesEnd []) (Run.opt1 hx (fun t e=>by show Run [] (Pr.bnd (Pr.long Pr.namesMore) fun l=>Pr.namesEnd (t.text::l)) _ _;rw [e];exact h7))
  exact h8
def cvl (c:Civil):Pr.Civil:=⟨c.y.toNat,c.m.toNat,c.d.toNat⟩
theorem dates_more: ∀(c:Civil) (cs:List Civil) (l m:List Bytes),date c=some l→commas date false cs=some m→ ∀k,(l++m).length<k→Run [[44]] (Pr.datesMore k) (l++m) ((c::cs).map cvl)∧ ∀d∈c::cs,0≤d.y∧0≤d.m∧0≤d.d
 |c,[],l,m,h1,h2,k,hk=>by
  rw [jx4 h2] at hk ⊢
  obtain ⟨k,rfl⟩: ∃j,k=j+1:=⟨k-1,by omega⟩
  obtain ⟨h3,h4⟩:=date_run h1
  refine ⟨?_,fun d hd=>by rw [List.mem_singleton.1 hd];exact h4⟩
  exact Run.bnd h3 (Run.no (fun x hx=>hx) (Run.ret _ _)) (fun x hx=>by cases hx)
 |c,d::cs,l,m,h1,h2,k,hk=>by
  obtain ⟨a,b,h3,h,rfl⟩:=jq4 h2
  rw [if_neg (by decide)] at h3
  obtain ⟨e,g,h4,h5,rfl⟩:=jq4 h
  rw [jx4 h3] at hk ⊢
  obtain ⟨k,rfl⟩: ∃j,k=j+1:=⟨k-1,by omega⟩
  obtain ⟨h6,h7⟩:=date_run h1
  obtain ⟨ih,hn⟩:=dates_more d cs e g h4 h5 k (by simp only [List.length_append,List.length_cons,List.length_nil] at hk ⊢;omega)
  refine ⟨?_,fun x hx=>?_⟩
  ·have h8:Run [[44]] (Pr.bnd (Pr.datesMore k) fun l=>Pr.ret (cvl c::l)) ((e++g)++ []) ((c::d::cs).map cvl):=Run.bnd ih (Run.ret _ _) (fun x hx=>hx)
   rw [List.append_nil] at h8
   exact Run.bnd h6 (Run.yes h8) (by intro h;cases h)
  ·rcases List.mem_cons.1 hx with rfl|hx
   ·exact h7
   ·exact hn x hx
theorem bearer_run {h:Rs.Item} {l:List Bytes} (e:bearer h=some l):Run [] Pr.bearer l (h.of_,h.act):=by
 obtain ⟨a1,b1,h1,e_1,rfl⟩:=jq4 e
 obtain ⟨a2,b2,h2,e_2,rfl⟩:=jq4 e_1
 obtain ⟨a3,a4,h3,h4,rfl⟩:=jq4 e_2
 obtain ⟨n1,rfl⟩:=jz4 h2
 obtain ⟨n2,rfl⟩:=jz4 h4
 rw [jx4 h1,jx4 h3]
 exact Run.exp (Run.name n1 (Run.exp (Run.name n2 (Run.ret _ _))))
theorem any_run: ∀(ws:List Bytes) (j i:Nat) (y:Bytes),ws.findIdx? (fun x=>x==y)=some i→Run [] (Pr.anyOf ws j) [y] (j+i)
 | [],_,_,_,h=>by cases h
 |x::ws,j,i,y,h=>by
  rw [List.findIdx?_cons] at h
  by_cases hx:x=y
  ·subst hx
   rw [if_pos (by simp)] at h
   injection h with h
   subst h
   exact Run.yes (Run.ret _ _)
  ·rw [if_neg (by simpa using hx)] at h
   obtain ⟨i2,h2,rfl⟩:=Option.map_eq_some_iff.1 h
   have ih:=any_run ws (j+1) i2 y h2
   rw [show j+1+i2=j+(i2+1) from by omega] at ih
   exact Run.no (by show y∉ [x];rw [List.mem_singleton];exact fun e=>hx e.symm) ih
theorem weekday_run (i:Nat) (h:i<7):Run [] Pr.weekday [weekNames.getD i []] i:=by
 have h1: ∀i:Fin 7,weekNames.findIdx? (fun x=>x==weekNames.getD i.val [])=some i.val:=by decide
 have:=any_run weekNames 0 i _ (h1 ⟨i,h⟩)
 rw [Nat.zero_add] at this
 exact this
theorem status_run {i:Int} (h:1≤i∧i≤4):Run [] Pr.status [statusT i] i.toNat:=by
 have h1: ∀k:Fin 4,[[115,116,97,114,116,101,100],[100,111,110,101],[102,97,105,108,101,100],[118,111,105,100]].findIdx? (fun x=>x==statusT ((k.val+1:Nat):Int))=some k.val:=by decide
 obtain ⟨k,rfl⟩: ∃k:Nat,i=((k+1:Nat):Int):=⟨i.toNat-1,by omega⟩
 have:=any_run [[115,116,97,114,116,101,100],[100,111,110,101],[102,97,105,108,101,100],[118,111,105,100]] 1 k _ (h1 ⟨k,by omega⟩)
 rw [show 1+k=k+1 from by omega] at this
 exact this
def nml (c:Named):Pr.Named:=⟨c.name,c.is_.toNat⟩
theorem conds_more: ∀(c:Named) (cs:List Named) (m:List Bytes),(1≤c.is_∧c.is_≤4)→isName c.name=true→conds false cs=some m→ ∀k,(c.name::statusT c.is_::m).length<k→Run [[97,110,100]] (Pr.condsMore k) (c.name::statusT c.is_::m) ((c::cs).map nml)∧ ∀d∈c::cs,1≤d.is_∧d.is_≤4
 |c,[],m,h1,h2,h3,k,hk=>by
  rw [jx4 h3] at hk ⊢
  obtain ⟨k,rfl⟩: ∃j,k=j+1:=⟨k-1,by omega⟩
  refine ⟨?_,fun d hd=>by rw [List.mem_singleton.1 hd];exact h1⟩
  have h4:Run [] Pr.named ([c.name,statusT c.is_]++ []) (nml c):=Run.name h2 (Run.bnd (ys:= []) (status_run h1) (Run.ret _ _) (fun x hx=>hx))
  exact Run.bnd h4 (Run.no (fun x hx=>hx) (Run.ret _ _)) (fun x hx=>by cases hx)
 |c,d::cs,m,h1,h2,h3,k,hk=>by
  obtain ⟨a,b,h,h5,rfl⟩:=jq4 h3
  unfold cond at h
  split at h
  ·next hd=>
   obtain ⟨e,g,h6,h_1,rfl⟩:=jq4 h
   obtain ⟨p,q,h7,h8,rfl⟩:=jq4 h_1
   obtain ⟨n1,rfl⟩:=jz4 h7
   rw [jx4 h6,jx4 h8] at hk ⊢
   obtain ⟨k,rfl⟩: ∃j,k=j+1:=⟨k-1,by omega⟩
   obtain ⟨ih,hn⟩:=conds_more d cs b hd n1 h5 k (by simp only [List.length_append,List.length_cons,List.length_nil] at hk ⊢;omega)
   refine ⟨?_,fun x hx=>?_⟩
   ·have h8:Run [[97,110,100]] (Pr.bnd (Pr.condsMore k) fun l=>Pr.ret (nml c::l)) ((d.name::statusT d.is_::b)++ []) ((c::d::cs).map nml):=Run.bnd ih (Run.ret _ _) (fun x hx=>hx)
    rw [List.append_nil] at h8
    have h4:Run [] Pr.named ([c.name,statusT c.is_]++ []) (nml c):=Run.name h2 (Run.bnd (ys:= []) (status_run h1) (Run.ret _ _) (fun x hx=>hx))
    exact Run.bnd h4 (Run.yes h8) (by intro h;cases h)
   ·rcases List.mem_cons.1 hx with rfl|hx
    ·exact h1
    ·exact hn x hx
  ·cases h
theorem pause_run {h:Rs.Item} {l:List Bytes} (cs:List Pr.Named) (e:(if h.by_= []∧h.til= [] then ok [] else cat (ok [[112,97,117,115,101,100],[98,121]]) (cat (name h.by_) (cat (ok [[117,110,116,105,108]]) (name h.til))))=some l):Run [[112,97,117,115,101,100]] (Pr.circEnd cs) l (cs,h.by_,h.til)∧(l= []∨ ∃z,l= [112,97,117,115,101,100]::z):=by
 split at e
 ·next hc=>
  rw [jx4 e,hc.1,hc.2]
  exact ⟨Run.no (fun x hx=>hx) (Run.ret _ _),.inl rfl⟩
 ·obtain ⟨a1,b1,h1,e_1,rfl⟩:=jq4 e
  obtain ⟨a2,b2,h2,e_2,rfl⟩:=jq4 e_1
  obtain ⟨a3,a4,h3,h4,rfl⟩:=jq4 e_2
  obtain ⟨n1,rfl⟩:=jz4 h2
  obtain ⟨n2,rfl⟩:=jz4 h4
  rw [jx4 h1,jx4 h3]
  exact ⟨Run.yes (Run.exp (Run.name n1 (Run.exp (Run.name n2 (Run.ret _ _))))),.inr ⟨_,rfl⟩⟩
def circN:List Bytes:= [[105,102],[97,110,100],[112,97,117,115,101,100]]
theorem kz9 {h:Rs.Item} {l:List Bytes} (e:circ h=some l):Run circN Pr.circ l (h.conds.map nml,h.by_,h.til)∧(∀d∈h.conds,1≤d.is_∧d.is_≤4)∧ ∀y z,l=y::z→y= [105,102]∨y= [112,97,117,115,101,100]:=by
 obtain ⟨a,b,h1,h2,rfl⟩:=jq4 e
 cases hc:h.conds with
 |nil=>
  rw [hc] at h1
  rw [jx4 h1,List.nil_append]
  obtain ⟨h3,h4⟩:=pause_run [] h2
  refine ⟨?_,fun d hd=>(by cases hd),fun y z e=>?_⟩
  ·refine Run.no ?_ (h3.wide (by decide))
   rcases h4 with rfl|⟨z,rfl⟩
   ·decide
   ·show [112,97,117,115,101,100]∉ [[105,102]]
    decide
  ·rcases h4 with rfl|⟨w,rfl⟩
   ·cases e
   ·exact .inr (List.cons.inj e).1.symm
 |cons c cs=>
  rw [hc] at h1
  obtain ⟨a1,b1,h3,h5,rfl⟩:=jq4 h1
  unfold cond at h3
  split at h3
  ·next hd=>
   obtain ⟨e,g,h6,hh,rfl⟩:=jq4 h3
   obtain ⟨p,q,h7,h8,rfl⟩:=jq4 hh
   obtain ⟨n1,rfl⟩:=jz4 h7
   rw [jx4 h6,jx4 h8]
   obtain ⟨k1,k2⟩:=pause_run ((c::cs).map nml) h2
   have hm:=fun k hk=>(conds_more c cs b1 hd n1 h5 k hk).1
   refine ⟨?_,(conds_more c cs b1 hd n1 h5 _ (Nat.lt_succ_self _)).2,fun y z e=> .inl (List.cons.inj e).1.symm⟩
   have h9:Run circN (Pr.bnd (Pr.long Pr.condsMore) Pr.circEnd) ((c.name::statusT c.is_::b1)++b) ((c::cs).map nml,h.by_,h.til):=by
    refine Run.bnd (Run.long hm) (k1.wide (by decide)) ?_
    rcases k2 with rfl|⟨z,rfl⟩
    ·decide
    ·show [112,97,117,115,101,100]∉ [[97,110,100]]
     decide
   exact Run.yes h9
  ·cases h3
def consN:List Bytes:= [[118,97,108,117,101],[102,105,110,97,108]]
theorem fin_run (q:Pr.Price) {b:Bool} {l:List Bytes} (e:(if b then ok [[102,105,110,97,108]] else ok [])=some l):Run [[102,105,110,97,108]] (Pr.consEnd q) l (q,b)∧(l= []∨l= [[102,105,110,97,108]]):=by
 cases b with
 |true=>rw [if_pos rfl] at e;rw [jx4 e];exact ⟨Run.yes (Run.ret _ _),.inr rfl⟩
 |false=>rw [if_neg (by decide)] at e;rw [jx4 e];exact ⟨Run.no (fun x hx=>hx) (Run.ret _ _),.inl rfl⟩
structure ConsB (h:Rs.Item):Prop where
 num:(consLeft h).num=⟨0,0⟩
 unit:(consLeft h).unit= []
 to_:(consLeft h).to_= []
theorem cons_run {h:Rs.Item} {l:List Bytes} (e:cons h=some l) (hb:ConsB h):Run consN Pr.cons l (⟨⟨h.num.num.toNat,h.num.den.toNat⟩,h.unit,h.sum,h.to_⟩,h.fin)∧(0≤h.num.num∧0≤h.num.den)∧ ∀y z,l=y::z→y= [118,97,108,117,101]∨y= [102,105,110,97,108]:=by
 obtain ⟨a,b,h1,h2,rfl⟩:=jq4 e
 obtain ⟨hb1,hb2,hb3⟩:=hb
 unfold consLeft at hb1 hb2 hb3
 by_cases hs:h.sum= []∧h.unit= []
 ·rw [if_pos hs] at h1 hb1 hb2 hb3
  have hb1:h.num=⟨0,0⟩:=hb1
  have hb3:h.to_= []:=hb3
  rw [jx4 h1,hb1,hb3,hs.1,hs.2,List.nil_append]
  obtain ⟨k1,k2⟩:=fin_run ⟨⟨0,0⟩,[],[],[]⟩ h2
  refine ⟨?_,⟨Int.le_refl _,Int.le_refl _⟩,fun y z e=>?_⟩
  ·refine Run.no ?_ (k1.wide (by decide))
   rcases k2 with rfl|rfl<;>decide
  ·rcases k2 with rfl|rfl
   ·cases e
   ·exact .inr (List.cons.inj e).1.symm
 ·rw [if_neg hs] at h1 hb1 hb2 hb3
  obtain ⟨a1,b1,h3,h4,rfl⟩:=jq4 h1
  obtain ⟨a2,b2,h5,h6,rfl⟩:=jq4 h4
  obtain ⟨a3,b3,h7,h8,rfl⟩:=jq4 h6
  obtain ⟨nt,rfl⟩:=jz4 h8
  rw [jx4 h3,jx4 h7]
  by_cases hz:h.sum= []
  ·rw [if_pos hz] at h5
   obtain ⟨z,hn,hz2⟩:=amount_num h5
   rw [hz]
   refine ⟨?_,amount_nn h5,fun y z e=> .inl (List.cons.inj e).1.symm⟩
   have k:=(fin_run ⟨⟨h.num.num.toNat,h.num.den.toNat⟩,h.unit,[],h.to_⟩ h2).1
   have k2:Run consN (Pr.priceEnd ⟨h.num.num.toNat,h.num.den.toNat⟩ h.unit []) ([116,111]::h.to_::b) (⟨⟨h.num.num.toNat,h.num.den.toNat⟩,h.unit,[],h.to_⟩,h.fin):=Run.exp (Run.name nt (k.wide (by decide)))
   have k3:=amount_run (f:=fun r u=>Pr.priceEnd r u []) h5 k2
   have k4:Run consN Pr.cons ([118,97,108,117,101]::(a2++([116,111]::h.to_::b))) (⟨⟨h.num.num.toNat,h.num.den.toNat⟩,h.unit,[],h.to_⟩,h.fin):=by
    refine Run.yes ?_
    show Run consN (Pr.bnd (Pr.opt 1) fun o=>match o with|some t=>Pr.priceEnd ⟨0,0⟩ [] t.text|none=>Pr.bnd Pr.ratio fun r=>Pr.bnd Pr.name fun u=>Pr.priceEnd r u []) _ _
    have hk:(tkOf (dec h.num.num)).kind≠1:=by rw [tk_dec hn];exact (by decide:(2:Nat)≠1)
    rw [hz2,List.cons_append] at k3 ⊢
    exact Run.optno hk k3
   simp only [List.append_assoc,List.cons_append,List.nil_append]
   exact k4
  ·rw [if_neg hz] at h5 hb1 hb2 hb3
   have hb1:h.num=⟨0,0⟩:=hb1
   have hb2:h.unit= []:=hb2
   obtain ⟨ns,rfl⟩:=jz4 h5
   rw [hb1,hb2]
   refine ⟨?_,⟨Int.le_refl _,Int.le_refl _⟩,fun y z e=> .inl (List.cons.inj e).1.symm⟩
   have k:=(fin_run ⟨⟨0,0⟩,[],h.sum,h.to_⟩ h2).1
   have k2:Run consN (Pr.priceEnd ⟨0,0⟩ [] h.sum) ([116,111]::h.to_::b) (⟨⟨0,0⟩,[],h.sum,h.to_⟩,h.fin):=Run.exp (Run.name nt (k.wide (by decide)))
   have k4:Run consN Pr.cons ([118,97,108,117,101]::(h.sum::([116,111]::h.to_::b))) (⟨⟨0,0⟩,[],h.sum,h.to_⟩,h.fin):=by
    refine Run.yes ?_
    show Run consN (Pr.bnd (Pr.opt 1) fun o=>match o with|some t=>Pr.priceEnd ⟨0,0⟩ [] t.text|none=>Pr.bnd Pr.ratio fun r=>Pr.bnd Pr.name fun u=>Pr.priceEnd r u []) _ _
    exact Run.opt1 ns (fun t e=>by show Run consN (Pr.priceEnd ⟨0,0⟩ [] t.text) _ _;rw [e];exact k2)
   exact k4
end Go.Proofs.YtfficindoecpfaaGreatDoor.Pt
namespace Go.Proofs.YtfficindoecpfaaGreatDoor.Pt
open Rs Ic
open Lx (Tok)
theorem jj7 {f:Pr.Flat} {h:Rs.Item} (h1:(f.kind:Int)=h.kind) (h2:f.name=h.name) (h3:f.pos=0) (h4:f.of_=h.of_) (h5:f.act=h.act) (h6:(f.word:Int)=h.word) (h7:(f.times:Int)=h.times) (h8:rsp f.within=h.within) (h9:rsp f.grace=h.grace) (h10:f.conds.map rsn=h.conds) (h11:f.by_=h.by_) (h12:f.til=h.til) (h13:(⟨f.num.num,f.num.den⟩:Ratio)=h.num) (h14:f.unit=h.unit) (h15:f.sum=h.sum) (h16:f.fin=h.fin) (h17:f.give=h.give) (h18:f.to_=h.to_) (h19:f.days=h.days) (h20:f.dates.map rsc=h.dates) (h21:f.names=h.names):rsi f= {h with pos:=0}:=by
 cases h
 simp only at*
 subst h1 h2 h4 h5 h6 h7 h8 h9 h10 h11 h12 h13 h14 h15 h16 h17 h18 h19 h20 h21
 unfold rsi
 rw [h3]
 rfl
theorem kz2 {r:Ratio} (h:0≤r.num∧0≤r.den):(⟨((r.num.toNat:Nat):Int),((r.den.toNat:Nat):Int)⟩:Ratio)=r:=by
 obtain ⟨n,d⟩:=r
 simp only at h
 rw [Int.toNat_of_nonneg h.1,Int.toNat_of_nonneg h.2]
theorem kz3 {s:Span} (h:0≤s.days):rsp ⟨s.days.toNat,s.bus,s.name⟩=s:=by
 obtain ⟨d,b,n⟩:=s
 unfold rsp
 simp only at h ⊢
 rw [Int.toNat_of_nonneg h]
theorem conds_back {l:List Named} (h: ∀d∈l,1≤d.is_∧d.is_≤4):(l.map nml).map rsn=l:=by
 rw [List.map_map]
 have e: ∀d∈l,(rsn∘nml) d=d:=fun d hd=>by
  have:=h d hd
  show (⟨d.name,((d.is_.toNat:Nat):Int)⟩:Named)=d
  rw [Int.toNat_of_nonneg (by omega)]
 rw [List.map_congr_left e,List.map_id']
theorem dates_back {l:List Civil} (h: ∀d∈l,0≤d.y∧0≤d.m∧0≤d.d):(l.map cvl).map rsc=l:=by
 rw [List.map_map]
 have e: ∀d∈l,(rsc∘cvl) d=d:=fun d hd=>by
  obtain ⟨h1,h2,h3⟩:=h d hd
  show (⟨((d.y.toNat:Nat):Int),((d.m.toNat:Nat):Int),((d.d.toNat:Nat):Int)⟩:Civil)=d
  rw [Int.toNat_of_nonneg h1,Int.toNat_of_nonneg h2,Int.toNat_of_nonneg h3]
 rw [List.map_congr_left e,List.map_id']
structure Back (h:Rs.Item) (l:List Bytes) (w:Bytes) (k:Nat):Prop where
 kind:h.kind=k
 run: ∃xs f,l=w::xs∧Run [] (Pr.body k) xs f∧rsi f= {h with pos:=0}
theorem jv6 {w:Bytes} {h:Rs.Item} {l:List Bytes} (e:begin_ w h=some l):isName h.name=true∧l= [w,h.name]:=by
 obtain ⟨a,b,h1,h2,rfl⟩:=jq4 e
 obtain ⟨hn,rfl⟩:=jz4 h2
 rw [jx4 h1]
 exact ⟨hn,rfl⟩
theorem party_back {h:Rs.Item} {l:List Bytes} (hk:h.kind=1) (e:party h=some l) (hb:blank (left h)):Back h l [112,97,114,116,121] 1:=by
 obtain ⟨a,b,h1,h2,rfl⟩:=jq4 e
 obtain ⟨hn,rfl⟩:=jv6 h1
 rw [jx4 h2]
 have hl:left h= {h with name:= []}:=by unfold left;rw [if_pos hk]
 rw [hl] at hb
 obtain ⟨b1,b2,b3,b4,b5,b6,b7,b8,b9,b10,b11,b12,b13,b14,b15,b16,b17,b18,b19⟩:=hb
 have k:Run [] Pr.party [h.name,[59]] {Pr.flat0 with kind:=1,name:=h.name}:=Run.name hn (Run.exp (Run.ret _ _))
 exact ⟨hk,_,_,rfl,k,jj7 hk.symm rfl rfl b2.symm b3.symm b4.symm b5.symm b6.symm b7.symm b8.symm b9.symm b10.symm b11.symm b12.symm b13.symm b14.symm b15.symm b16.symm b17.symm b18.symm b19.symm⟩
theorem role_back {h:Rs.Item} {l:List Bytes} (hk:h.kind=2) (e:role h=some l) (hb:blank (left h)):Back h l [114,111,108,101] 2:=by
 obtain ⟨a,b,h1,h2,rfl⟩:=jq4 e
 obtain ⟨a2,b2,h3,h4,rfl⟩:=jq4 h2
 obtain ⟨a3,b3,h5,h6,rfl⟩:=jq4 h4
 obtain ⟨hn,rfl⟩:=jv6 h1
 obtain ⟨ho,rfl⟩:=jz4 h5
 rw [jx4 h3,jx4 h6]
 have hl:left h= {h with name:= [],of_:= []}:=by unfold left;rw [if_neg (by omega),if_pos hk]
 rw [hl] at hb
 obtain ⟨b1,b2,b3,b4,b5,b6,b7,b8,b9,b10,b11,b12,b13,b14,b15,b16,b17,b18,b19⟩:=hb
 have k:Run [] Pr.role [h.name,[111,102],h.of_,[59]] {Pr.flat0 with kind:=2,name:=h.name,of_:=h.of_}:=Run.name hn (Run.exp (Run.name ho (Run.exp (Run.ret _ _))))
 exact ⟨hk,_,_,rfl,k,jj7 hk.symm rfl rfl rfl b3.symm b4.symm b5.symm b6.symm b7.symm b8.symm b9.symm b10.symm b11.symm b12.symm b13.symm b14.symm b15.symm b16.symm b17.symm b18.symm b19.symm⟩
theorem unitTail_run {n:Bytes} {wd:Nat} {h:Rs.Item} {l:List Bytes} (e:(if h.unit= [] then ok [] else cat (ok [[61]]) (amount h.num h.unit))=some l) (hz:h.unit= []→h.num=⟨0,0⟩):Run [] (Pr.unitTail n wd) (l++ [[59]]) {Pr.flat0 with kind:=3,name:=n,word:=wd,num:=⟨h.num.num.toNat,h.num.den.toNat⟩,unit:=h.unit}∧0≤h.num.num∧0≤h.num.den:=by
 split at e
 ·next hu=>
  rw [jx4 e,hz hu,hu]
  exact ⟨Run.no (show [59]∉ [[61]] by decide) (Run.exp (Run.ret _ _)),Int.le_refl _,Int.le_refl _⟩
 ·obtain ⟨a,b,h1,h2,rfl⟩:=jq4 e
  rw [jx4 h1]
  have k1:Run [] (Pr.unitEnd n wd ⟨h.num.num.toNat,h.num.den.toNat⟩ h.unit) [[59]] {Pr.flat0 with kind:=3,name:=n,word:=wd,num:=⟨h.num.num.toNat,h.num.den.toNat⟩,unit:=h.unit}:=Run.exp (Run.ret _ _)
  exact ⟨Run.yes (amount_run (f:=fun r u=>Pr.unitEnd n wd r u) h2 k1),amount_nn h2⟩
theorem unit_back {h:Rs.Item} {l:List Bytes} (hk:h.kind=3) (e:unit h=some l) (hb:blank (left h)):Back h l [117,110,105,116] 3:=by
 obtain ⟨a,b,h1,h2,rfl⟩:=jq4 e
 obtain ⟨a2,b2,h3,h4,rfl⟩:=jq4 h2
 obtain ⟨a3,b3,h5,h6,rfl⟩:=jq4 h4
 obtain ⟨hn,rfl⟩:=jv6 h1
 rw [jx4 h6]
 have hl:left h=if h.unit= [] then {h with name:= [],word:=0} else {amountLeft h with name:= [],word:=0}:=by unfold left;rw [if_neg (by omega),if_neg (by omega),if_pos hk]
 rw [hl] at hb
 have hz:h.unit= []→h.num=⟨0,0⟩:=fun hu=>by rw [if_pos hu] at hb;exact hb.2.2.2.2.2.2.2.2.2.2.1
 obtain ⟨k1,k2⟩:h.unit=h.unit∧blank {amountLeft h with name:= [],word:=0}:=⟨rfl,by
  split at hb
  ·next hu=>
   have e1:=hz hu
   have:({amountLeft h with name:= [],word:=0}:Rs.Item)= {h with name:= [],word:=0}:=by
    unfold amountLeft
    cases h
    simp only at hu e1
    subst hu e1
    rfl
   rw [this];exact hb
  ·exact hb⟩
 obtain ⟨b1,b2,b3,b4,b5,b6,b7,b8,b9,b10,b11,b12,b13,b14,b15,b16,b17,b18,b19⟩:=k2
 have go: ∀wd:Nat,(wd:Int)=h.word→Run [] Pr.unit (h.name::(a2++(a3++ [[59]]))) {Pr.flat0 with kind:=3,name:=h.name,word:=wd,num:=⟨h.num.num.toNat,h.num.den.toNat⟩,unit:=h.unit}→Back h ([[117,110,105,116],h.name]++(a2++(a3++ [[59]]))) [117,110,105,116] 3:=fun wd hw hr=>
  ⟨hk,_,_,rfl,hr,jj7 hk.symm rfl rfl b2.symm b3.symm hw b5.symm b6.symm b7.symm b8.symm b9.symm b10.symm (kz2 (unitTail_run (n:= []) (wd:=0) h5 hz).2) rfl b13.symm b14.symm b15.symm b16.symm b17.symm b18.symm b19.symm⟩
 unfold unitWord at h3
 split at h3
 ·next hw=>
  rw [jx4 h3] at go ⊢
  exact go 1 hw.symm (Run.name hn (Run.no (show [103,111,111,100,115]∉ [[109,111,110,101,121]] by decide) (Run.exp (unitTail_run h5 hz).1)))
 ·split at h3
  ·next hw=>
   rw [jx4 h3] at go ⊢
   exact go 2 hw.symm (Run.name hn (Run.yes (unitTail_run h5 hz).1))
  ·cases h3
theorem Run.good {β:Type} {M:List Bytes} {f:Bool→Pr.M β} {ys:List Bytes} {b:β} (h:Run M (f true) ys b):Run M (Pr.bnd Pr.good f) ys b:=fun ts r it e hr=>h ts r it e hr
theorem week_more: ∀(ds:List Nat) (d:Nat) (m:List Bytes),d<7→(∀i∈ds,i<7)→commas (fun i=>ok [weekNames.getD i []]) false ds=some m→ ∀(l:List Bool) (k:Nat),m.length+1<k→Run [] (Pr.weekendMore k l) (weekNames.getD d []::(m++ [[59]])) ((d::ds).foldl (fun l i=>l.set i true) l)
 | [],d,m,hd,_,h,l,k,hk=>by
  rw [jx4 h]
  obtain ⟨k,rfl⟩: ∃j,k=j+1:=⟨k-1,by omega⟩
  have k1:Run [] (Pr.bnd (Pr.acc [44]) fun b=>if b then Pr.weekendMore k (l.set d true) else Pr.seq (Pr.expect [[59]]) (Pr.ret (l.set d true))) [[59]] (l.set d true):=Run.no (show [59]∉ [[44]] by decide) (Run.exp (Run.ret _ _))
  have k2:Run [] (Pr.bnd Pr.good fun g=>if g then Pr.bnd (Pr.acc [44]) fun b=>if b then Pr.weekendMore k (l.set d true) else Pr.seq (Pr.expect [[59]]) (Pr.ret (l.set d true)) else Pr.ret l) [[59]] (l.set d true):=Run.good k1
  exact Run.bnd (weekday_run d hd) k2 (by decide)
 |e::ds,d,m,hd,hm,h,l,k,hk=>by
  obtain ⟨a,b,h1,h2,rfl⟩:=jq4 h
  rw [if_neg (by decide)] at h1
  obtain ⟨c,g,h3,h4,rfl⟩:=jq4 h2
  rw [jx4 h1,jx4 h3] at hk ⊢
  obtain ⟨k,rfl⟩: ∃j,k=j+1:=⟨k-1,by omega⟩
  have ih:=week_more ds e g (hm e (List.mem_cons_self ..)) (fun i hi=>hm i (List.mem_cons_of_mem _ hi)) h4 (l.set d true) k (by simp only [List.length_append,List.length_cons,List.length_nil] at hk;omega)
  have k1:Run [] (Pr.bnd (Pr.acc [44]) fun b=>if b then Pr.weekendMore k (l.set d true) else Pr.seq (Pr.expect [[59]]) (Pr.ret (l.set d true))) ([44]::(weekNames.getD e []::(g++ [[59]]))) ((d::e::ds).foldl (fun l i=>l.set i true) l):=Run.yes ih
  have k2:Run [] (Pr.bnd Pr.good fun g=>if g then Pr.bnd (Pr.acc [44]) fun b=>if b then Pr.weekendMore k (l.set d true) else Pr.seq (Pr.expect [[59]]) (Pr.ret (l.set d true)) else Pr.ret l) ([44]::(weekNames.getD e []::(g++ [[59]]))) ((d::e::ds).foldl (fun l i=>l.set i true) l):=Run.good k1
  exact Run.bnd (weekday_run d hd) k2 (by intro h;cases h)
theorem weekDays_lt {l:List Bool}: ∀i∈weekDays l,i<7:=fun i hi=>List.mem_range.1 (List.mem_filter.1 hi).1
theorem weekDays_set {l:List Bool} (h:l.length=7):(weekDays l).foldl (fun l i=>l.set i true) week0=l:=by
 obtain ⟨a,b,c,d,e,f,g,rfl⟩: ∃a b c d e f g,l= [a,b,c,d,e,f,g]:=by
  match l,h with
  | [a,b,c,d,e,f,g],_=>exact ⟨a,b,c,d,e,f,g,rfl⟩
 revert a b c d e f g
 decide
theorem weekend_back {h:Rs.Item} {l:List Bytes} (hk:h.kind=4) (e:weekend h=some l) (hb:blank (left h)) (h7:h.days.length=7):Back h l [119,101,101,107,101,110,100] 4:=by
 obtain ⟨a,b,h1,h2,rfl⟩:=jq4 e
 obtain ⟨a2,b2,h3,h4,rfl⟩:=jq4 h2
 rw [jx4 h1,jx4 h4]
 have hl:left h= {h with days:=week0}:=by unfold left;rw [if_neg (by omega),if_neg (by omega),if_neg (by omega),if_pos hk]
 rw [hl] at hb
 obtain ⟨b1,b2,b3,b4,b5,b6,b7,b8,b9,b10,b11,b12,b13,b14,b15,b16,b17,b18,b19⟩:=hb
 unfold weekT at h3
 split at h3
 ·cases h3
 ·have hs:=weekDays_set h7
  have hlt:= @weekDays_lt h.days
  cases hd:weekDays h.days with
  |nil=>next hn=>exact absurd hd hn
  |cons d ds=>
   rw [hd] at h3 hs hlt
   obtain ⟨c,g,h5,h6,rfl⟩:=jq4 h3
   rw [if_pos rfl] at h5
   obtain ⟨p,q,h7,h8,rfl⟩:=jq4 h6
   rw [jx4 h5,jx4 h7]
   have k1:=fun k hk=>week_more ds d q (hlt d (List.mem_cons_self ..)) (fun i hi=>hlt i (List.mem_cons_of_mem _ hi)) h8 week0 k hk
   rw [hs] at k1
   have k2:Run [] (Pr.long fun f=>Pr.weekendMore f Pr.flat0.days) (weekNames.getD d []::(q++ [[59]])) h.days:=Run.long fun k hk=>k1 k (by simp only [List.length_append,List.length_cons,List.length_nil] at hk;omega)
   have k3:Run [] Pr.weekend ((weekNames.getD d []::(q++ [[59]]))++ []) {Pr.flat0 with kind:=4,days:=h.days}:=Run.bnd k2 (Run.ret _ _) (fun x hx=>hx)
   rw [List.append_nil] at k3
   exact ⟨hk,_,_,rfl,k3,jj7 hk.symm b1.symm rfl b2.symm b3.symm b4.symm b5.symm b6.symm b7.symm b8.symm b9.symm b10.symm b11.symm b12.symm b13.symm b14.symm b15.symm b16.symm rfl b18.symm b19.symm⟩
theorem holiday_back {h:Rs.Item} {l:List Bytes} (hk:h.kind=5) (e:holiday h=some l) (hb:blank (left h)):Back h l [104,111,108,105,100,97,121] 5:=by
 unfold holiday at e
 split at e
 ·cases e
 next hn=>
 obtain ⟨a,b,h1,h2,rfl⟩:=jq4 e
 obtain ⟨a2,b2,h3,h4,rfl⟩:=jq4 h2
 rw [jx4 h1,jx4 h4]
 have hl:left h= {h with dates:= []}:=by unfold left;rw [if_neg (by omega),if_neg (by omega),if_neg (by omega),if_neg (by omega),if_pos hk]
 rw [hl] at hb
 obtain ⟨b1,b2,b3,b4,b5,b6,b7,b8,b9,b10,b11,b12,b13,b14,b15,b16,b17,b18,b19⟩:=hb
 cases hd:h.dates with
 |nil=>exact absurd hd hn
 |cons d ds=>
  rw [hd] at h3
  obtain ⟨c,g,h5,h6,rfl⟩:=jq4 h3
  rw [if_pos rfl] at h5
  obtain ⟨p,q,h7,h8,rfl⟩:=jq4 h6
  rw [jx4 h5]
  have k1:=fun k hk=>dates_more d ds p q h7 h8 k hk
  have k2:Run [[44]] (Pr.long Pr.datesMore) (p++q) ((d::ds).map cvl):=Run.long fun k hk=>(k1 k hk).1
  have k4:=dates_back (k1 _ (Nat.lt_succ_self _)).2
  have k3:Run [] Pr.holiday ((p++q)++ [[59]]) {Pr.flat0 with kind:=5,dates:=(d::ds).map cvl}:=Run.bnd k2 (Run.exp (Run.ret _ _)) (by decide)
  exact ⟨hk,_,_,rfl,k3,jj7 hk.symm b1.symm rfl b2.symm b3.symm b4.symm b5.symm b6.symm b7.symm b8.symm b9.symm b10.symm b11.symm b12.symm b13.symm b14.symm b15.symm b16.symm b17.symm (k4.trans hd.symm) b19.symm⟩
theorem spanDef_back {h:Rs.Item} {l:List Bytes} (hk:h.kind=6) (e:spanDef h=some l) (hb:blank (left h)):Back h l [115,112,97,110] 6:=by
 obtain ⟨a,b,h1,h2,rfl⟩:=jq4 e
 obtain ⟨a2,b2,h3,h4,rfl⟩:=jq4 h2
 obtain ⟨a3,b3,h5,h6,rfl⟩:=jq4 h4
 obtain ⟨hn,rfl⟩:=jv6 h1
 rw [jx4 h3,jx4 h6]
 have hl:left h= {h with name:= [],within:=daysLeft h.within}:=by unfold left;rw [if_neg (by omega),if_neg (by omega),if_neg (by omega),if_neg (by omega),if_neg (by omega),if_pos hk]
 rw [hl] at hb
 obtain ⟨b1,b2,b3,b4,b5,b6,b7,b8,b9,b10,b11,b12,b13,b14,b15,b16,b17,b18,b19⟩:=hb
 obtain ⟨k1,k2,_⟩:=days_run h5
 have hw:h.within.name= []:=congrArg Span.name b6
 have k3:Run [] Pr.spanDef (h.name:: [61]::(a3++ [[59]])) {Pr.flat0 with kind:=6,name:=h.name,within:=⟨h.within.days.toNat,h.within.bus,h.within.name⟩}:=by
  rw [hw]
  have k4:Run [] (Pr.bnd Pr.days fun w=>Pr.seq (Pr.expect [[59]]) (Pr.ret ({Pr.flat0 with kind:=6,name:=h.name,within:=w}:Pr.Flat))) (a3++ [[59]]) _:=Run.bnd k1 (Run.exp (Run.ret _ _)) (by decide)
  exact Run.name hn (Run.exp k4)
 exact ⟨hk,_,_,rfl,k3,jj7 hk.symm rfl rfl b2.symm b3.symm b4.symm b5.symm (kz3 k2.1) b7.symm b8.symm b9.symm b10.symm b11.symm b12.symm b13.symm b14.symm b15.symm b16.symm b17.symm b18.symm b19.symm⟩
theorem sumDef_back {h:Rs.Item} {l:List Bytes} (hk:h.kind=7) (e:sumDef h=some l) (hb:blank (left h)):Back h l [115,117,109] 7:=by
 obtain ⟨a,b,h1,h2,rfl⟩:=jq4 e
 obtain ⟨a2,b2,h3,h4,rfl⟩:=jq4 h2
 obtain ⟨a3,b3,h5,h6,rfl⟩:=jq4 h4
 obtain ⟨hn,rfl⟩:=jv6 h1
 rw [jx4 h3,jx4 h6]
 have hl:left h= {amountLeft h with name:= []}:=by unfold left;rw [if_neg (by omega),if_neg (by omega),if_neg (by omega),if_neg (by omega),if_neg (by omega),if_neg (by omega),if_pos hk]
 rw [hl] at hb
 obtain ⟨b1,b2,b3,b4,b5,b6,b7,b8,b9,b10,b11,b12,b13,b14,b15,b16,b17,b18,b19⟩:=hb
 have k1:Run [] (Pr.seq (Pr.expect [[59]]) (Pr.ret ({Pr.flat0 with kind:=7,name:=h.name,num:=⟨h.num.num.toNat,h.num.den.toNat⟩,unit:=h.unit}:Pr.Flat))) [[59]] _:=Run.exp (Run.ret _ _)
 have k2:=amount_run (f:=fun r u=>Pr.seq (Pr.expect [[59]]) (Pr.ret ({Pr.flat0 with kind:=7,name:=h.name,num:=r,unit:=u}:Pr.Flat))) h5 k1
 have k3:Run [] Pr.sumDef (h.name:: [61]::(a3++ [[59]])) _:=Run.name hn (Run.exp k2)
 exact ⟨hk,_,_,rfl,k3,jj7 hk.symm rfl rfl b2.symm b3.symm b4.symm b5.symm b6.symm b7.symm b8.symm b9.symm b10.symm (kz2 (amount_nn h5)) rfl b13.symm b14.symm b15.symm b16.symm b17.symm b18.symm b19.symm⟩
theorem actOf_some {o:Bytes} {l:List Bytes} (e:actOf o=some l): ∃x,isName x=true∧l= [x]∧Pr.nature x=o:=by
 unfold actOf at e
 split at e
 ·cases e
 ·next h1=>
  split at e
  ·next h2=>exact ⟨natureT,by decide,jx4 e,by rw [h2];rfl⟩
  ·obtain ⟨hn,rfl⟩:=jz4 e
   exact ⟨o,hn,rfl,if_neg h1⟩
theorem actGive_run {n o x:Bytes} {wd:Nat} {g t:Bytes} (hg:isName g=true) (ht:isName t=true) (hx:Pr.nature x=o):Run [] (Pr.actGive n x wd) [g,[116,111],t,[59]] {Pr.flat0 with kind:=8,name:=n,of_:=o,word:=wd,give:=g,to_:=t}:=by
 have k:Run [] (Pr.actGive n x wd) [g,[116,111],t,[59]] {Pr.flat0 with kind:=8,name:=n,of_:=Pr.nature x,word:=wd,give:=g,to_:=t}:=Run.name hg (Run.exp (Run.name ht (Run.exp (Run.ret _ _))))
 rw [hx] at k;exact k
theorem actTo_run {n o x:Bytes} {r:Pr.Ratio} {u t:Bytes} {l:List Bytes} (e:(if t= [] then ok [] else cat (ok [[116,111]]) (name t))=some l) (hx:Pr.nature x=o):Run [] (Pr.actTo n x r u) (l++ [[59]]) {Pr.flat0 with kind:=8,name:=n,of_:=o,word:=1,num:=r,unit:=u,to_:=t}:=by
 have k: ∀t,Run [] (Pr.actEnd n x r u t) [[59]] {Pr.flat0 with kind:=8,name:=n,of_:=Pr.nature x,word:=1,num:=r,unit:=u,to_:=t}:=fun t=>Run.exp (Run.ret _ _)
 rw [hx] at k
 split at e
 ·next h=>rw [jx4 e,h];exact Run.no (show [59]∉ [[116,111]] by decide) (k [])
 ·obtain ⟨a,b,h1,h2,rfl⟩:=jq4 e
  obtain ⟨ht,rfl⟩:=jz4 h2
  rw [jx4 h1]
  exact Run.yes (Run.name (f:=fun t=>Pr.actEnd n x r u t) ht (k t))
theorem to_head {t:Bytes} {l:List Bytes} (e:(if t= [] then ok [] else cat (ok [[116,111]]) (name t))=some l): ∀y z,l++ [[59]]=y::z→y= [116,111]∨y= [59]:=by
 intro y z h
 split at e
 ·rw [jx4 e] at h;exact .inr (List.cons.inj h).1.symm
 ·obtain ⟨a,b,h1,h2,rfl⟩:=jq4 e
  rw [jx4 h1] at h
  exact .inl (List.cons.inj h).1.symm
theorem Fol.of {N M l:List Bytes} {P:Bytes→Prop} (hne:l≠ []) (h: ∀y z,l=y::z→P y) (hp: ∀y,P y→y∉N):Fol N M l:=by
 cases l with
 |nil=>exact absurd rfl hne
 |cons y z=>exact hp y (h y z rfl)
def rest3 (n x:Bytes):Pr.M Pr.Flat:=Pr.bnd (Pr.acc [109,111,118,101,115]) fun m=>if m then Pr.bnd Pr.ratio fun r=>Pr.bnd Pr.name fun u=>Pr.actTo n x r u else Pr.actTo n x ⟨0,0⟩ []
def rest2 (n x:Bytes):Pr.M Pr.Flat:=Pr.bnd (Pr.acc [110,111,118,97,116,101,115]) fun v=>if v then Pr.actGive n x 3 else rest3 n x
def rest1 (n x:Bytes):Pr.M Pr.Flat:=Pr.bnd (Pr.acc [97,115,115,105,103,110,115]) fun a=>if a then Pr.actGive n x 2 else rest2 n x
theorem act_back {h:Rs.Item} {l:List Bytes} (hk:h.kind=8) (e:act h=some l) (hb:blank (left h)):Back h l [97,99,116] 8:=by
 obtain ⟨a,b,h1,h2,rfl⟩:=jq4 e
 obtain ⟨a2,b2,h3,h4,rfl⟩:=jq4 h2
 obtain ⟨a3,b3,h5,h6,rfl⟩:=jq4 h4
 obtain ⟨a4,b4,h7,h8,rfl⟩:=jq4 h6
 obtain ⟨hn,rfl⟩:=jv6 h1
 obtain ⟨x,hx1,rfl,hx2⟩:=actOf_some h5
 rw [jx4 h3,jx4 h8]
 have hl:left h=if h.word=1 then (if h.unit= [] then {h with name:= [],of_:= [],to_:= [],word:=0} else {amountLeft h with name:= [],of_:= [],to_:= [],word:=0}) else {h with name:= [],of_:= [],give:= [],to_:= [],word:=0}:=by unfold left;rw [if_neg (by omega),if_neg (by omega),if_neg (by omega),if_neg (by omega),if_neg (by omega),if_neg (by omega),if_neg (by omega),if_pos hk]
 rw [hl] at hb
 unfold actWord at h7
 split at h7
 ·next hw=>
  rw [if_neg (by omega)] at hb
  obtain ⟨b1,b2,b3,b4,b5,b6,b7,b8,b9,b10,b11,b12,b13,b14,b15,b16,b17,b18,b19⟩:=hb
  obtain ⟨c1,d1,g1,g2,rfl⟩:=jq4 h7
  obtain ⟨c2,d2,g3,g4,rfl⟩:=jq4 g2
  obtain ⟨c3,d3,g5,g6,rfl⟩:=jq4 g4
  obtain ⟨ng,rfl⟩:=jz4 g3
  obtain ⟨nt,rfl⟩:=jz4 g6
  rw [jx4 g1,jx4 g5]
  have fin: ∀wd:Nat,(wd:Int)=h.word→ ∀ys,Run [] Pr.act ys {Pr.flat0 with kind:=8,name:=h.name,of_:=h.of_,word:=wd,give:=h.give,to_:=h.to_}→ ∀l,l= [97,99,116]::ys→Back h l [97,99,116] 8:=fun wd hw ys hr l hl=>
   ⟨hk,_,_,hl,hr,jj7 hk.symm rfl rfl rfl b3.symm hw b5.symm b6.symm b7.symm b8.symm b9.symm b10.symm b11.symm b12.symm b13.symm b14.symm rfl rfl b17.symm b18.symm b19.symm⟩
  by_cases h2:h.word=2
  ·rw [if_pos h2]
   exact fin 2 h2.symm _ (Run.name hn (Run.exp (Run.name hx1 (Run.yes (actGive_run ng nt hx2))))) _ rfl
  ·rw [if_neg h2]
   have r2:Run [] (rest2 h.name x) ([110,111,118,97,116,101,115]:: [h.give,[116,111],h.to_,[59]]) _:=Run.yes (actGive_run ng nt hx2)
   have r1:Run [] (rest1 h.name x) ([110,111,118,97,116,101,115]:: [h.give,[116,111],h.to_,[59]]) _:=Run.no (show [110,111,118,97,116,101,115]∉ [[97,115,115,105,103,110,115]] by decide) r2
   exact fin 3 (by omega) _ (Run.name hn (Run.exp (Run.name hx1 r1))) _ rfl
 ·split at h7
  ·next hw=>
   rw [if_pos hw] at hb
   obtain ⟨c1,d1,g1,g2,rfl⟩:=jq4 h7
   have key: ∀r:Pr.Ratio,(⟨r.num,r.den⟩:Ratio)=h.num→blank {h with name:= [],of_:= [],to_:= [],word:=0,num:=⟨0,0⟩,unit:= []}→ ∀ys,Run [] Pr.act ys {Pr.flat0 with kind:=8,name:=h.name,of_:=h.of_,word:=1,num:=r,unit:=h.unit,to_:=h.to_}→ ∀l,l= [97,99,116]::ys→Back h l [97,99,116] 8:=fun r hr hb ys hrun l hl=>by
    obtain ⟨b1,b2,b3,b4,b5,b6,b7,b8,b9,b10,b11,b12,b13,b14,b15,b16,b17,b18,b19⟩:=hb
    exact ⟨hk,_,_,hl,hrun,jj7 hk.symm rfl rfl rfl b3.symm hw.symm b5.symm b6.symm b7.symm b8.symm b9.symm b10.symm hr rfl b13.symm b14.symm b15.symm rfl b17.symm b18.symm b19.symm⟩
   have hto:=fun (r:Pr.Ratio) (u:Bytes)=>actTo_run (n:=h.name) (r:=r) (u:=u) g2 hx2
   split at g1
   ·next hu=>
    rw [if_pos hu] at hb
    rw [jx4 g1]
    have h0:h.num=⟨0,0⟩:=hb.2.2.2.2.2.2.2.2.2.2.1
    have hb2:blank {h with name:= [],of_:= [],to_:= [],word:=0,num:=⟨0,0⟩,unit:= []}:=by
     have:({h with name:= [],of_:= [],to_:= [],word:=0,num:=⟨0,0⟩,unit:= []}:Rs.Item)= {h with name:= [],of_:= [],to_:= [],word:=0}:=by
      cases h
      simp only at hu h0
      subst hu h0
      rfl
     rw [this];exact hb
    have k:=hto ⟨0,0⟩ []
    have hh:=to_head g2
    have hne:d1++ [[59]]≠ []:=by simp
    refine key ⟨0,0⟩ h0.symm hb2 (h.name:: [98,121]::x::(d1++ [[59]])) ?_ _ rfl
    rw [hu]
    have r3:Run [] (rest3 h.name x) (d1++ [[59]]) _:=Run.no (Fol.of hne hh (by rintro y (rfl|rfl)<;>decide)) k
    have r2:Run [] (rest2 h.name x) (d1++ [[59]]) _:=Run.no (Fol.of hne hh (by rintro y (rfl|rfl)<;>decide)) r3
    have r1:Run [] (rest1 h.name x) (d1++ [[59]]) _:=Run.no (Fol.of hne hh (by rintro y (rfl|rfl)<;>decide)) r2
    exact Run.name hn (Run.exp (Run.name hx1 r1))
   ·next hu=>
    rw [if_neg hu] at hb
    obtain ⟨c3,d3,g3,g4,rfl⟩:=jq4 g1
    rw [jx4 g3]
    have hb2:blank {h with name:= [],of_:= [],to_:= [],word:=0,num:=⟨0,0⟩,unit:= []}:=hb
    have k:=amount_run (f:=fun r u=>Pr.actTo h.name x r u) g4 (hto _ _)
    refine key ⟨h.num.num.toNat,h.num.den.toNat⟩ (kz2 (amount_nn g4)) hb2 (h.name:: [98,121]::x:: [109,111,118,101,115]::(d3++(d1++ [[59]]))) ?_ _ (by simp only [List.cons_append,List.nil_append,List.append_assoc])
    have r3:Run [] (rest3 h.name x) ([109,111,118,101,115]::(d3++(d1++ [[59]]))) _:=Run.yes k
    have r2:Run [] (rest2 h.name x) ([109,111,118,101,115]::(d3++(d1++ [[59]]))) _:=Run.no (show [109,111,118,101,115]∉ [[110,111,118,97,116,101,115]] by decide) r3
    have r1:Run [] (rest1 h.name x) ([109,111,118,101,115]::(d3++(d1++ [[59]]))) _:=Run.no (show [109,111,118,101,115]∉ [[97,115,115,105,103,110,115]] by decide) r2
    exact Run.name hn (Run.exp (Run.name hx1 r1))
  ·cases h7
theorem grace_run {n:Bytes} {oa:Bytes×Bytes} {tm:Nat} {w:Pr.Span} {s:Span} {l ys:List Bytes} {f:Pr.Flat} (e:grace s=some l) (hs:(if s=span0 then s else spanLeft s)=span0) (hy:Fol [[103,114,97,99,101]] [] ys) (hr:Run [] (Pr.dutyEnd n oa tm w ⟨s.days.toNat,s.bus,s.name⟩) ys f):
  Run [] (Pr.bnd (Pr.acc [103,114,97,99,101]) fun g=>if g then Pr.bnd Pr.span fun gr=>Pr.dutyEnd n oa tm w gr else Pr.dutyEnd n oa tm w ⟨0,false,[]⟩) (l++ys) f∧0≤s.days:=by
 unfold grace at e
 split at e
 ·next h=>
  rw [jx4 e]
  have hr2:Run [] (Pr.dutyEnd n oa tm w ⟨0,false,[]⟩) ys f:=by rw [h] at hr;exact hr
  exact ⟨Run.no hy hr2,by rw [h];exact Int.le_refl _⟩
 ·next h=>
  rw [if_neg h] at hs
  obtain ⟨a,b,h1,h2,rfl⟩:=jq4 e
  rw [jx4 h1]
  obtain ⟨k1,k2⟩:=span_run h2 hs
  have k3:Run [] (Pr.bnd Pr.span fun gr=>Pr.dutyEnd n oa tm w gr) (b++ys) f:=Run.bnd k1 hr (by cases ys<;>simp [Fol])
  exact ⟨Run.yes k3,k2⟩
theorem circ_head {h:Rs.Item} {l r:List Bytes} (e:circ h=some l) (hr:r≠ []) {P:Bytes→Prop} (h0: ∀y z,r=y::z→P y): ∀y z,l++r=y::z→(y= [105,102]∨y= [112,97,117,115,101,100])∨P y:=fun y z hy=>by
 cases l with
 |nil=>exact .inr (h0 y z hy)
 |cons a l=>rw [List.cons_append] at hy;injection hy with h1 h2;subst h1;exact .inl ((kz9 e).2.2 _ _ rfl)
theorem cons_head {h:Rs.Item} {l:List Bytes} (e:cons h=some l) (hb:ConsB h): ∀y z,l++ [[59]]=y::z→(y= [118,97,108,117,101]∨y= [102,105,110,97,108])∨y= [59]:=fun y z hy=>by
 cases l with
 |nil=>injection hy with h1 h2;exact .inr h1.symm
 |cons a l=>rw [List.cons_append] at hy;injection hy with h1 h2;subst h1;exact .inl ((cons_run e hb).2.2 _ _ rfl)
theorem end_run {h:Rs.Item} {c d:List Bytes} (h1:circ h=some c) (h2:cons h=some d) (hb:ConsB h) (g:(List Pr.Named×Bytes×Bytes)→(Pr.Price×Bool)→Pr.Flat):
  Run [] (Pr.bnd Pr.circ fun c=>Pr.bnd Pr.cons fun q=>Pr.seq (Pr.expect [[59]]) (Pr.ret (g c q))) (c++(d++ [[59]])) (g (h.conds.map nml,h.by_,h.til) (⟨⟨h.num.num.toNat,h.num.den.toNat⟩,h.unit,h.sum,h.to_⟩,h.fin)):=by
 obtain ⟨k1,_,_⟩:=kz9 h1
 obtain ⟨k2,_,_⟩:=cons_run h2 hb
 have hh:=cons_head h2 hb
 refine Run.bnd k1 (Run.bnd k2 (Run.exp (Run.ret _ _)) (by decide)) ?_
 exact Fol.of (by simp) hh (by rintro y ((rfl|rfl)|rfl)<;>decide)
theorem semi_run {h:Rs.Item} {c:List Bytes} (h1:circ h=some c) (g:(List Pr.Named×Bytes×Bytes)→Pr.Flat):
  Run [] (Pr.bnd Pr.circ fun c=>Pr.seq (Pr.expect [[59]]) (Pr.ret (g c))) (c++ [[59]]) (g (h.conds.map nml,h.by_,h.til)):=
 Run.bnd (kz9 h1).1 (Run.exp (Run.ret _ _)) (by decide)
end Go.Proofs.YtfficindoecpfaaGreatDoor.Pt
namespace Go.Proofs.YtfficindoecpfaaGreatDoor.Pt
open Rs Ic
open Lx (Tok)
theorem kx0 (h:Rs.Item):(consLeft h).num=if h.sum= []∧h.unit= [] then h.num else if h.sum= [] then ⟨0,0⟩ else h.num:=by unfold consLeft;split<;>(try split)<;>rfl
theorem kq1 (h:Rs.Item):(consLeft h).unit=if h.sum= []∧h.unit= [] then h.unit else if h.sum= [] then [] else h.unit:=by unfold consLeft;split<;>(try split)<;>rfl
theorem kv0 (h:Rs.Item):(consLeft h).to_=if h.sum= []∧h.unit= [] then h.to_ else []:=by unfold consLeft;split<;>(try split)<;>rfl
structure ClB (g:Rs.Item):Prop where
 word:g.word=0
 times:g.times=0
 within:g.within=span0
 grace:g.grace=span0
 give:g.give= []
 days:g.days=week0
 dates:g.dates= []
 names:g.names= []
 name:g.name= []
 of_:g.of_= []
 act:g.act= []
theorem clB_circ {g:Rs.Item} (hb:blank (circLeft g)):ClB g∧g.num=⟨0,0⟩∧g.unit= []∧g.sum= []∧g.fin=false∧g.to_= []:=by
 unfold circLeft at hb
 split at hb
 all_goals
  obtain ⟨b1,b2,b3,b4,b5,b6,b7,b8,b9,b10,b11,b12,b13,b14,b15,b16,b17,b18,b19⟩:=hb
  exact ⟨⟨b4,b5,b6,b7,b15,b17,b18,b19,b1,b2,b3⟩,b11,b12,b13,b14,b16⟩
theorem clB_cons {g:Rs.Item} (hb:blank (consLeft (circLeft g))):ClB g∧ConsB g:=by
 have hc:ClB g:=by
  unfold consLeft circLeft at hb
  repeat' split at hb
  all_goals
   obtain ⟨b1,b2,b3,b4,b5,b6,b7,b8,b9,b10,b11,b12,b13,b14,b15,b16,b17,b18,b19⟩:=hb
   exact ⟨b4,b5,b6,b7,b15,b17,b18,b19,b1,b2,b3⟩
 refine ⟨hc,?_⟩
 obtain ⟨b1,b2,b3,b4,b5,b6,b7,b8,b9,b10,b11,b12,b13,b14,b15,b16,b17,b18,b19⟩:=hb
 have e:(circLeft g).sum=g.sum∧(circLeft g).unit=g.unit∧(circLeft g).num=g.num∧(circLeft g).to_=g.to_:=by unfold circLeft;split<;>exact ⟨rfl,rfl,rfl,rfl⟩
 obtain ⟨e1,e2,e3,e4⟩:=e
 rw [kx0,e1,e2,e3] at b11
 rw [kq1,e1,e2] at b12
 rw [kv0,e1,e2,e4] at b16
 exact ⟨by rw [kx0];exact b11,by rw [kq1];exact b12,by rw [kv0];exact b16⟩
theorem consB_of {g h:Rs.Item} (hb:ConsB g) (e1:g.sum=h.sum) (e2:g.unit=h.unit) (e3:g.num=h.num) (e4:g.to_=h.to_):ConsB h:=by
 obtain ⟨b1,b2,b3⟩:=hb
 rw [kx0,e1,e2,e3] at b1
 rw [kq1,e1,e2] at b2
 rw [kv0,e1,e2,e4] at b3
 exact ⟨by rw [kx0];exact b1,by rw [kq1];exact b2,by rw [kv0];exact b3⟩
theorem times_run {n:Bytes} {oa:Bytes×Bytes} {tm:Int} {l ys:List Bytes} {f:Pr.Flat} (e:times tm=some l) (hr:Run [] (Pr.dutyTail n oa tm.toNat) ([119,105,116,104,105,110]::ys) f):
  Run [] (Pr.bnd (Pr.opt 2) fun t=>match t with|some t=>Pr.seq (Pr.expect [[116,105,109,101,115]]) (Pr.dutyTail n oa t.n)|none=>Pr.dutyTail n oa 1) (l++([119,105,116,104,105,110]::ys)) f∧0≤tm:=by
 unfold times at e
 split at e
 ·next h=>
  rw [jx4 e]
  rw [h] at hr
  exact ⟨Run.optno (by decide) hr,by omega⟩
 ·obtain ⟨a,b,h1,h2,rfl⟩:=jq4 e
  obtain ⟨hn,rfl⟩:=jv8 h1
  rw [jx4 h2]
  exact ⟨Run.opt2 hn (fun t e=>by
   show Run [] (Pr.seq (Pr.expect [[116,105,109,101,115]]) (Pr.dutyTail n oa t.n)) _ _
   rw [e];exact Run.exp hr),hn.1⟩
theorem duty_back {h:Rs.Item} {l:List Bytes} (hk:h.kind=9) (e:duty h=some l) (hb:blank (left h)):Back h l [100,117,116,121] 9:=by
 obtain ⟨a1,r1,h1,g1,rfl⟩:=jq4 e
 obtain ⟨a2,r2,h2,g2,rfl⟩:=jq4 g1
 obtain ⟨a3,r3,h3,g3,rfl⟩:=jq4 g2
 obtain ⟨a4,r4,h4,g4,rfl⟩:=jq4 g3
 obtain ⟨a5,r5,h5,g5,rfl⟩:=jq4 g4
 obtain ⟨a6,r6,h6,g6,rfl⟩:=jq4 g5
 obtain ⟨a7,r7,h7,g7,rfl⟩:=jq4 g6
 obtain ⟨a8,a9,h8,h9,rfl⟩:=jq4 g7
 obtain ⟨hn,rfl⟩:=jv6 h1
 rw [jx4 h4,jx4 h9]
 have hl:left h=consLeft (circLeft {h with name:= [],of_:= [],act:= [],times:=0,within:=spanLeft h.within,grace:=if h.grace=span0 then h.grace else spanLeft h.grace}):=by
  unfold left
  rw [if_neg (by omega),if_neg (by omega),if_neg (by omega),if_neg (by omega),if_neg (by omega),if_neg (by omega),if_neg (by omega),if_neg (by omega),if_pos hk]
 rw [hl] at hb
 obtain ⟨c,d⟩:=clB_cons hb
 have hc:=consB_of (h:=h) d rfl rfl rfl rfl
 obtain ⟨k5,n5⟩:=span_run h5 c.within
 have ke:=end_run h7 h8 hc (fun c q=>({Pr.flat0 with kind:=9,name:=h.name,of_:=h.of_,act:=h.act,times:=h.times.toNat,within:=⟨h.within.days.toNat,h.within.bus,h.within.name⟩,grace:=⟨h.grace.days.toNat,h.grace.bus,h.grace.name⟩,conds:=c.1,by_:=c.2.1,til:=c.2.2,num:=q.1.num,unit:=q.1.unit,sum:=q.1.sum,to_:=q.1.to_,fin:=q.2}:Pr.Flat))
 have hfol:Fol [[103,114,97,99,101]] [] (a7++(a8++ [[59]])):=Fol.of (by simp) (circ_head h7 (by simp) (cons_head h8 hc)) (by rintro y ((rfl|rfl)|((rfl|rfl)|rfl))<;>decide)
 obtain ⟨k6,n6⟩:=grace_run (n:=h.name) (oa:=(h.of_,h.act)) (tm:=h.times.toNat) (w:=⟨h.within.days.toNat,h.within.bus,h.within.name⟩) h6 c.grace hfol ke
 have k7:Run [] (Pr.dutyTail h.name (h.of_,h.act) h.times.toNat) ([119,105,116,104,105,110]::(a5++(a6++(a7++(a8++ [[59]]))))) _:=Run.exp (Run.bnd k5 k6 (by cases a6++(a7++(a8++ [[59]]))<;>simp [Fol]))
 obtain ⟨k8,n8⟩:=times_run h3 k7
 have k9:Run [] Pr.duty (h.name::(a2++(a3++([119,105,116,104,105,110]::(a5++(a6++(a7++(a8++ [[59]])))))))) _:=Run.name hn (Run.bnd (bearer_run h2) k8 (by cases a3++([119,105,116,104,105,110]::(a5++(a6++(a7++(a8++ [[59]])))))<;>simp [Fol]))
 refine ⟨hk,_,_,rfl,k9,jj7 hk.symm rfl rfl rfl rfl c.word.symm (Int.toNat_of_nonneg n8) (kz3 n5) (kz3 n6) (conds_back (kz9 h7).2.1) rfl rfl (kz2 (cons_run h8 hc).2.1) rfl rfl rfl c.give.symm rfl c.days.symm c.dates.symm c.names.symm⟩
theorem ban_back {h:Rs.Item} {l:List Bytes} (hk:h.kind=10) (e:ban h=some l) (hb:blank (left h)):Back h l [98,97,110] 10:=by
 obtain ⟨a1,r1,h1,g1,rfl⟩:=jq4 e
 obtain ⟨a2,r2,h2,g2,rfl⟩:=jq4 g1
 obtain ⟨a4,r4,h4,g4,rfl⟩:=jq4 g2
 obtain ⟨a5,r5,h5,g5,rfl⟩:=jq4 g4
 obtain ⟨a7,r7,h7,g7,rfl⟩:=jq4 g5
 obtain ⟨a8,a9,h8,h9,rfl⟩:=jq4 g7
 obtain ⟨hn,rfl⟩:=jv6 h1
 rw [jx4 h4,jx4 h9]
 have hl:left h=consLeft (circLeft {h with name:= [],of_:= [],act:= [],within:=spanLeft h.within}):=by
  unfold left
  rw [if_neg (by omega),if_neg (by omega),if_neg (by omega),if_neg (by omega),if_neg (by omega),if_neg (by omega),if_neg (by omega),if_neg (by omega),if_neg (by omega),if_pos hk]
 rw [hl] at hb
 obtain ⟨c,d⟩:=clB_cons hb
 have hc:=consB_of (h:=h) d rfl rfl rfl rfl
 obtain ⟨k5,n5⟩:=span_run h5 c.within
 have ke:=end_run h7 h8 hc (fun c q=>({Pr.flat0 with kind:=10,name:=h.name,of_:=h.of_,act:=h.act,within:=⟨h.within.days.toNat,h.within.bus,h.within.name⟩,conds:=c.1,by_:=c.2.1,til:=c.2.2,num:=q.1.num,unit:=q.1.unit,sum:=q.1.sum,to_:=q.1.to_,fin:=q.2}:Pr.Flat))
 have k9:Run [] Pr.ban (h.name::(a2++([102,111,114]::(a5++(a7++(a8++ [[59]])))))) _:=Run.name hn (Run.bnd (bearer_run h2) (Run.exp (Run.bnd k5 ke (by cases a7++(a8++ [[59]])<;>simp [Fol]))) (by simp [Fol]))
 refine ⟨hk,_,_,rfl,k9,jj7 hk.symm rfl rfl rfl rfl c.word.symm c.times.symm (kz3 n5) c.grace.symm (conds_back (kz9 h7).2.1) rfl rfl (kz2 (cons_run h8 hc).2.1) rfl rfl rfl c.give.symm rfl c.days.symm c.dates.symm c.names.symm⟩
theorem option_back {h:Rs.Item} {l:List Bytes} (hk:h.kind=11) (e:option h=some l) (hb:blank (left h)):Back h l [111,112,116,105,111,110] 11:=by
 obtain ⟨a1,r1,h1,g1,rfl⟩:=jq4 e
 obtain ⟨a2,r2,h2,g2,rfl⟩:=jq4 g1
 obtain ⟨a4,r4,h4,g4,rfl⟩:=jq4 g2
 obtain ⟨a5,r5,h5,g5,rfl⟩:=jq4 g4
 obtain ⟨a7,a9,h7,h9,rfl⟩:=jq4 g5
 obtain ⟨hn,rfl⟩:=jv6 h1
 rw [jx4 h4,jx4 h9]
 have hl:left h=circLeft {h with name:= [],of_:= [],act:= [],within:=spanLeft h.within}:=by
  unfold left
  rw [if_neg (by omega),if_neg (by omega),if_neg (by omega),if_neg (by omega),if_neg (by omega),if_neg (by omega),if_neg (by omega),if_neg (by omega),if_neg (by omega),if_neg (by omega),if_pos hk]
 rw [hl] at hb
 obtain ⟨c,d1,d2,d3,d4,d5⟩:=clB_circ hb
 obtain ⟨k5,n5⟩:=span_run h5 c.within
 have ke:=semi_run h7 (fun c=>({Pr.flat0 with kind:=11,name:=h.name,of_:=h.of_,act:=h.act,within:=⟨h.within.days.toNat,h.within.bus,h.within.name⟩,conds:=c.1,by_:=c.2.1,til:=c.2.2}:Pr.Flat))
 have k9:Run [] Pr.option (h.name::(a2++([119,105,116,104,105,110]::(a5++(a7++ [[59]]))))) _:=Run.name hn (Run.bnd (bearer_run h2) (Run.exp (Run.bnd k5 ke (by cases a7++ [[59]]<;>simp [Fol]))) (by simp [Fol]))
 refine ⟨hk,_,_,rfl,k9,jj7 hk.symm rfl rfl rfl rfl c.word.symm c.times.symm (kz3 n5) c.grace.symm (conds_back (kz9 h7).2.1) rfl rfl d1.symm d2.symm d3.symm d4.symm c.give.symm d5.symm c.days.symm c.dates.symm c.names.symm⟩
theorem watch_back {h:Rs.Item} {l:List Bytes} (hk:h.kind=12) (e:watch h=some l) (hb:blank (left h)):Back h l [119,97,116,99,104] 12:=by
 obtain ⟨a1,r1,h1,g1,rfl⟩:=jq4 e
 obtain ⟨a2,r2,h2,g2,rfl⟩:=jq4 g1
 obtain ⟨a3,r3,h3,g3,rfl⟩:=jq4 g2
 obtain ⟨a4,r4,h4,g4,rfl⟩:=jq4 g3
 obtain ⟨a5,r5,h5,g5,rfl⟩:=jq4 g4
 obtain ⟨a7,a9,h7,h9,rfl⟩:=jq4 g5
 obtain ⟨hn,rfl⟩:=jv6 h1
 obtain ⟨ha,rfl⟩:=jz4 h3
 rw [jx4 h2,jx4 h4,jx4 h9]
 have hl:left h=circLeft {h with name:= [],act:= [],within:=spanLeft h.within}:=by
  unfold left
  rw [if_neg (by omega),if_neg (by omega),if_neg (by omega),if_neg (by omega),if_neg (by omega),if_neg (by omega),if_neg (by omega),if_neg (by omega),if_neg (by omega),if_neg (by omega),if_neg (by omega),if_pos hk]
 rw [hl] at hb
 obtain ⟨c,d1,d2,d3,d4,d5⟩:=clB_circ hb
 obtain ⟨k5,n5⟩:=span_run h5 c.within
 have ke:=semi_run h7 (fun c=>({Pr.flat0 with kind:=12,name:=h.name,act:=h.act,within:=⟨h.within.days.toNat,h.within.bus,h.within.name⟩,conds:=c.1,by_:=c.2.1,til:=c.2.2}:Pr.Flat))
 have k9:Run [] Pr.watch (h.name:: [58]::h.act:: [119,105,116,104,105,110]::(a5++(a7++ [[59]]))) _:=Run.name hn (Run.exp (Run.name ha (Run.exp (Run.bnd k5 ke (by cases a7++ [[59]]<;>simp [Fol])))))
 refine ⟨hk,_,_,rfl,k9,jj7 hk.symm rfl rfl c.of_.symm rfl c.word.symm c.times.symm (kz3 n5) c.grace.symm (conds_back (kz9 h7).2.1) rfl rfl d1.symm d2.symm d3.symm d4.symm c.give.symm d5.symm c.days.symm c.dates.symm c.names.symm⟩
theorem incl_back {h:Rs.Item} {l:List Bytes} (hk:h.kind=14) (e:incl h=some l) (hb:blank (left h)):Back h l [105,110,99,108,117,100,101] 14:=by
 obtain ⟨a1,r1,h1,g1,rfl⟩:=jq4 e
 obtain ⟨a2,r2,h2,g2,rfl⟩:=jq4 g1
 obtain ⟨a3,r3,h3,g3,rfl⟩:=jq4 g2
 obtain ⟨a4,r4,h4,g4,rfl⟩:=jq4 g3
 obtain ⟨a5,a6,h5,h6,rfl⟩:=jq4 g4
 obtain ⟨ho,rfl⟩:=jz4 h2
 obtain ⟨hn,rfl⟩:=jz4 h4
 rw [jx4 h1,jx4 h3,jx4 h6]
 have hl:left h= {h with of_:= [],name:= [],names:= []}:=by
  unfold left
  rw [if_neg (by omega),if_neg (by omega),if_neg (by omega),if_neg (by omega),if_neg (by omega),if_neg (by omega),if_neg (by omega),if_neg (by omega),if_neg (by omega),if_neg (by omega),if_neg (by omega),if_neg (by omega),if_neg (by omega)]
 rw [hl] at hb
 obtain ⟨b1,b2,b3,b4,b5,b6,b7,b8,b9,b10,b11,b12,b13,b14,b15,b16,b17,b18,b19⟩:=hb
 have k1:Run [] (Pr.bnd Pr.names fun l=>Pr.seq (Pr.expect [[59]]) (Pr.ret ({Pr.flat0 with kind:=14,name:=h.name,of_:=h.of_,names:=l}:Pr.Flat))) (a5++ [[59]]) _:=Run.bnd (names_run h5) (Run.exp (Run.ret _ _)) (by simp [Fol])
 have k2:Run [] Pr.incl (h.of_:: [97,115]::h.name::(a5++ [[59]])) _:=Run.name ho (Run.exp (Run.name hn k1))
 exact ⟨hk,_,_,rfl,k2,jj7 hk.symm rfl rfl rfl b3.symm b4.symm b5.symm b6.symm b7.symm b8.symm b9.symm b10.symm b11.symm b12.symm b13.symm b14.symm b15.symm b16.symm b17.symm b18.symm rfl⟩
theorem flat_back {h:Rs.Item} {l:List Bytes} (e:flatT h=some l) (hb:blank (left h)) (h7:h.days.length=7): ∃w k,Back h l w k∧Pr.allWords.lookup w=some k∧k≠13∧(isInner k=true→Pr.innerWords.lookup w=some k)∧isName w=true:=by
 unfold flatT at e
 by_cases hk:h.kind=1
 ·rw [if_pos hk] at e;exact ⟨_,_,party_back hk e hb,by decide,by decide,by decide,by decide⟩
 rw [if_neg hk] at e;clear hk
 by_cases hk:h.kind=2
 ·rw [if_pos hk] at e;exact ⟨_,_,role_back hk e hb,by decide,by decide,by decide,by decide⟩
 rw [if_neg hk] at e;clear hk
 by_cases hk:h.kind=3
 ·rw [if_pos hk] at e;exact ⟨_,_,unit_back hk e hb,by decide,by decide,by decide,by decide⟩
 rw [if_neg hk] at e;clear hk
 by_cases hk:h.kind=4
 ·rw [if_pos hk] at e;exact ⟨_,_,weekend_back hk e hb h7,by decide,by decide,by decide,by decide⟩
 rw [if_neg hk] at e;clear hk
 by_cases hk:h.kind=5
 ·rw [if_pos hk] at e;exact ⟨_,_,holiday_back hk e hb,by decide,by decide,by decide,by decide⟩
 rw [if_neg hk] at e;clear hk
 by_cases hk:h.kind=6
 ·rw [if_pos hk] at e;exact ⟨_,_,spanDef_back hk e hb,by decide,by decide,by decide,by decide⟩
 rw [if_neg hk] at e;clear hk
 by_cases hk:h.kind=7
 ·rw [if_pos hk] at e;exact ⟨_,_,sumDef_back hk e hb,by decide,by decide,by decide,by decide⟩
 rw [if_neg hk] at e;clear hk
 by_cases hk:h.kind=8
 ·rw [if_pos hk] at e;exact ⟨_,_,act_back hk e hb,by decide,by decide,by decide,by decide⟩
 rw [if_neg hk] at e;clear hk
 by_cases hk:h.kind=9
 ·rw [if_pos hk] at e;exact ⟨_,_,duty_back hk e hb,by decide,by decide,by decide,by decide⟩
 rw [if_neg hk] at e;clear hk
 by_cases hk:h.kind=10
 ·rw [if_pos hk] at e;exact ⟨_,_,ban_back hk e hb,by decide,by decide,by decide,by decide⟩
 rw [if_neg hk] at e;clear hk
 by_cases hk:h.kind=11
 ·rw [if_pos hk] at e;exact ⟨_,_,option_back hk e hb,by decide,by decide,by decide,by decide⟩
 rw [if_neg hk] at e;clear hk
 by_cases hk:h.kind=12
 ·rw [if_pos hk] at e;exact ⟨_,_,watch_back hk e hb,by decide,by decide,by decide,by decide⟩
 rw [if_neg hk] at e;clear hk
 by_cases hk:h.kind=14
 ·rw [if_pos hk] at e;exact ⟨_,_,incl_back hk e hb,by decide,by decide,by decide,by decide⟩
 rw [if_neg hk] at e;clear hk
 cases e
end Go.Proofs.YtfficindoecpfaaGreatDoor.Pt
namespace Go.Proofs.YtfficindoecpfaaGreatDoor.Pt
open Rs Ic
open Lx (Tok)
def Al2 {α β:Type} (R:α→β→Prop):List α→List β→Prop
 | [],[]=>True
 |x::l,y::l'=>R x y∧Al2 R l l'
 |_,_=>False
def EqH (x y:Rs.Item):Prop:=y= {x with pos:=y.pos}
def EqI (x y:Tree):Prop:=EqH x.h y.h∧x.l= []∧y.l= []
def EqT (x y:Tree):Prop:=EqH x.h y.h∧Al2 EqI x.l y.l
structure EqS (x y:Src):Prop where
 name:y.name=x.name
 frm:y.frm=x.frm
 days:y.days=x.days
 items:Al2 EqT x.items y.items
def H7 (x:Tree):Prop:=x.h.days.length=7∧ ∀z∈x.l,z.h.days.length=7
theorem start_run {ws:List (Bytes×Nat)} {w:Bytes} {k:Nat} {t:Tok} {r:List Tok} {it:Nat} (ht:tkey t=Kd w) (hw:isName w=true) (hk:ws.lookup w=some k) (hi:it<600):Pr.start ws ⟨t::r,it,0⟩=(some (k,t.pos),⟨r,it+1,0⟩):=by
 have h1:=kz8 ht
 have h2:t.kind=1:=by have:=congrArg (fun k=>k.1) ht;unfold Kd at this;rw [tk_name hw] at this;exact this
 unfold Pr.start
 have h3:Pr.isK 1 ⟨t::r,it,0⟩=true:=by unfold Pr.isK;simp [h2]
 rw [if_pos h3]
 show (match ws.lookup t.text with|none=>(none,(Pr.fail ⟨t::r,it,0⟩).2)|some k=>if it=600 then (none,({rest:=t::r,items:=it,err:=3}:Pr.St)) else (some (k,t.pos),{rest:=r,items:=it+1,err:=0}))=_
 rw [h1,hk]
 show (if it=600 then _ else _)=_
 rw [if_neg (by omega)]
theorem back_pos {h:Rs.Item} {f:Pr.Flat} (e:rsi f= {h with pos:=0}) (p:Nat):EqH h (rsi {f with pos:=p}):=by
 unfold EqH
 have h1:rsi {f with pos:=p}= {rsi f with pos:=p}:=rfl
 rw [h1,e]
theorem body_run {ws:List (Bytes×Nat)} {h:Rs.Item} {l:List Bytes} {w:Bytes} {k:Nat} (hb:Back h l w k) (hw:isName w=true) (hk:ws.lookup w=some k) (ts r:List Tok) (it:Nat) (e:ts.map tkey=l.map Kd) (hi:it<600):
  ∃t us f,ts=t::us∧Pr.start ws ⟨ts++r,it,0⟩=(some (k,t.pos),⟨us++r,it+1,0⟩)∧Pr.body k ⟨us++r,it+1,0⟩=(f,⟨r,it+1,0⟩)∧EqH h (rsi {f with pos:=t.pos}):=by
 obtain ⟨hkind,xs,f,rfl,h1,h2⟩:=hb
 obtain ⟨t,us,rfl,e1,e2⟩:=jj0 e
 refine ⟨t,us,f,rfl,?_,h1 us r (it+1) e2 (by simp),back_pos h2 t.pos⟩
 show Pr.start ws ⟨t::(us++r),it,0⟩=_
 exact start_run e1 hw hk hi
theorem flatL_some {b:Bool} {t:Tree} {ls:List Line} (h:flatL b t=some ls): ∃l,ls= [(b,l)]∧flatT t.h=some l∧blank (left t.h)∧t.l= []:=by
 unfold flatL at h
 split at h
 ·cases h
 ·next l e=>
  split at h
  ·next hb=>injection h with h;exact ⟨l,h.symm,e,hb.1,hb.2⟩
  ·cases h
theorem inner_run {x:Tree} {ls:List Line} (e:innerL x=some ls) (h7:x.h.days.length=7) (ts r:List Tok) (it:Nat) (et:ts.map tkey=(ls.flatMap (fun l:Line=>l.2)).map Kd) (hi:it<600):
  (∃t us,ts=t::us∧t.text≠ [125])∧ ∃f,Pr.inner ⟨ts++r,it,0⟩=(f,⟨r,it+1,0⟩)∧EqI x (rsf f):=by
 unfold innerL at e
 split at e
 case isFalse=>cases e
 next hin=>
 obtain ⟨l,rfl,h1,h2,h3⟩:=flatL_some e
 obtain ⟨w,k,hb,h4,h5,h6,hw⟩:=flat_back h1 h2 h7
 have et:ts.map tkey=l.map Kd:=by rw [et];simp
 have hk:x.h.kind=(k:Int):=hb.kind
 obtain ⟨t,us,f,rfl,g1,g2,g3⟩:=body_run hb hw (h6 (by rw [←hk];exact hin)) ts r it et hi
 obtain ⟨_,xs,_,rfl,_,_⟩:=hb
 obtain ⟨t2,us2,e1,e2,_⟩:=jj0 et
 injection e1 with e1 _
 subst e1
 refine ⟨⟨t,us,rfl,by rw [kz8 e2];exact name_not hw (by decide)⟩,_,(Pr.jq8 g1).trans ((Pr.jq8 g2).trans rfl),g3,h3,rfl⟩
theorem tmpl_run: ∀(l:List Tree) (ls:List Line),each innerL l=some ls→(∀z∈l,z.h.days.length=7)→ ∀(k:Nat) (ts r:List Tok) (it:Nat),(ls.flatMap (fun l:Line=>l.2)).length+1<k→ts.map tkey=(ls.flatMap (fun l:Line=>l.2)++ [[125]]).map Kd→it+l.length≤600→
  ∃fs,Pr.tmplMore k ⟨ts++r,it,0⟩=(fs,⟨r,it+l.length,0⟩)∧Al2 EqI l (fs.map rsf)
 | [],ls,h,h7,k,ts,r,it,hk,e,hi=>by
  injection h with h
  subst h
  obtain ⟨k,rfl⟩: ∃j,k=j+1:=⟨k-1,by omega⟩
  obtain ⟨t,us,rfl,e1,e2⟩:=jj0 (x:= [125]) (xs:= []) e
  rw [keys_nil e2]
  have h1:=acc_T [125] t ([]++r) it
  rw [if_pos (kz8 e1)] at h1
  refine ⟨[],?_,trivial⟩
  refine (Pr.jq8 (m:=Pr.good) (s:=⟨t::r,it,0⟩) (a:=true) (s':=⟨t::r,it,0⟩) rfl).trans ?_
  rw [if_pos rfl]
  refine (Pr.jq8 h1).trans ?_
  rfl
 |x::l,ls,h,h7,k,ts,r,it,hk,e,hi=>by
  obtain ⟨a,b,h1,h2,rfl⟩:=kz1 h
  rw [List.flatMap_append] at hk e
  rw [List.append_assoc,List.map_append] at e
  obtain ⟨t1,t2,rfl,e1,e2⟩:=List.map_eq_append_iff.1 e
  rw [List.length_cons] at hi
  obtain ⟨⟨t,us,rfl,hne⟩,f,g1,g2⟩:=inner_run h1 (h7 x (List.mem_cons_self ..)) t1 (t2++r) it e1 (by omega)
  have hl:1≤(a.flatMap (fun l:Line=>l.2)).length:=by
   have:=congrArg List.length e1
   rw [List.length_map,List.length_map,List.length_cons] at this
   omega
  rw [List.length_append] at hk
  obtain ⟨k,rfl⟩: ∃j,k=j+1:=⟨k-1,by omega⟩
  obtain ⟨fs,g3,g4⟩:=tmpl_run l b h2 (fun z hz=>h7 z (List.mem_cons_of_mem _ hz)) k t2 r (it+1) (by omega) e2 (by omega)
  rw [show it+1+l.length=it+(x::l).length from by rw [List.length_cons];omega] at g3
  refine ⟨f::fs,?_,g2,g4⟩
  rw [List.append_assoc]
  have h3:=acc_T [125] t (us++(t2++r)) it
  rw [if_neg hne] at h3
  refine (Pr.jq8 (m:=Pr.good) (s:=⟨(t::us)++(t2++r),it,0⟩) (a:=true) (s':=⟨(t::us)++(t2++r),it,0⟩) rfl).trans ?_
  rw [if_pos rfl]
  refine (Pr.jq8 h3).trans ?_
  rw [if_neg (by decide)]
  refine (Pr.jq8 g1).trans ?_
  refine (Pr.jq8 g3).trans ?_
  rfl
theorem head_back {h:Rs.Item} {l:List Bytes} (hk:h.kind=13) (e:head h=some l) (hb:blank (left h)): ∃m,l= [116,101,109,112,108,97,116,101]::h.name::(m++ [[123]])∧isName h.name=true∧Run [] Pr.names m h.names∧rsi {Pr.flat0 with kind:=13,name:=h.name,names:=h.names}= {h with pos:=0}:=by
 obtain ⟨a,b,h1,h2,rfl⟩:=jq4 e
 obtain ⟨a2,b2,h3,h4,rfl⟩:=jq4 h2
 obtain ⟨hn,rfl⟩:=jv6 h1
 rw [jx4 h4]
 have hl:left h= {h with name:= [],names:= []}:=by
  unfold left
  rw [if_neg (by omega),if_neg (by omega),if_neg (by omega),if_neg (by omega),if_neg (by omega),if_neg (by omega),if_neg (by omega),if_neg (by omega),if_neg (by omega),if_neg (by omega),if_neg (by omega),if_neg (by omega),if_pos hk]
 rw [hl] at hb
 obtain ⟨b1,b2,b3,b4,b5,b6,b7,b8,b9,b10,b11,b12,b13,b14,b15,b16,b17,b18,b19⟩:=hb
 exact ⟨a2,rfl,hn,names_run h3,jj7 hk.symm rfl rfl b2.symm b3.symm b4.symm b5.symm b6.symm b7.symm b8.symm b9.symm b10.symm b11.symm b12.symm b13.symm b14.symm b15.symm b16.symm b17.symm b18.symm rfl⟩
theorem item_run {x:Tree} {ls:List Line} (e:itemL x=some ls) (h7:H7 x) (ts r:List Tok) (it:Nat) (et:ts.map tkey=(ls.flatMap (fun l:Line=>l.2)).map Kd) (hi:it+1+x.l.length≤600):
  (∃t us,ts=t::us)∧ ∃y,Pr.item ⟨ts++r,it,0⟩=(y,⟨r,it+1+x.l.length,0⟩)∧EqT x (rst y):=by
 unfold itemL at e
 by_cases hk:x.h.kind=13
 ·rw [if_pos hk] at e
  cases h1:head x.h with
  |none=>rw [h1] at e;cases e
  |some l=>
   rw [h1] at e
   cases h2:each innerL x.l with
   |none=>rw [h2] at e;cases e
   |some ms=>
    rw [h2] at e
    have e:(if blank (left x.h) then some ([(false,l)]++ms++ [(false,[[125]])]) else none)=some ls:=e
    by_cases hb:blank (left x.h)
    ·rw [if_pos hb] at e
     injection e with e
     subst e
     obtain ⟨m,rfl,hn,h3,h4⟩:=head_back hk h1 hb
     have ew:([(false,[116,101,109,112,108,97,116,101]::x.h.name::(m++ [[123]]))]++ms++ [(false,[[125]])]).flatMap (fun l:Line=>l.2)= [116,101,109,112,108,97,116,101]::x.h.name::(m++([123]::(ms.flatMap (fun l:Line=>l.2)++ [[125]]))):=by
      simp only [List.flatMap_append,List.flatMap_cons,List.flatMap_nil,List.append_nil,List.cons_append,List.nil_append,List.append_assoc]
     rw [ew] at et
     obtain ⟨t,t1,rfl,e1,e2⟩:=jj0 et
     obtain ⟨t',t2,rfl,e3,e4⟩:=jj0 e2
     rw [List.map_append] at e4
     obtain ⟨t3,t4,rfl,e5,e6⟩:=List.map_eq_append_iff.1 e4
     obtain ⟨t'',t5,rfl,e7,e8⟩:=jj0 e6
     have hs:=start_run (ws:=Pr.allWords) (r:=t'::(t3++(t''::t5++r))) (it:=it) e1 (by decide) (k:=13) (by decide) (by omega)
     have k1:Pr.name ⟨t'::(t3++(t''::t5++r)),it+1,0⟩=(x.h.name,⟨t3++(t''::t5++r),it+1,0⟩):=by
      have:=Run.name (f:=fun n=>Pr.ret n) (M:= []) (ys:= []) hn (Run.ret _ _) [t'] (t3++(t''::t5++r)) (it+1) (by rw [List.map_cons,List.map_cons,e3];rfl) (by simp)
      exact this
     have k2:=h3 t3 (t''::t5++r) (it+1) e5 (by simp)
     have k3:Pr.expect [[123]] ⟨t''::(t5++r),it+1,0⟩=((),⟨t5++r,it+1,0⟩):=by
      have h5:=acc_T [123] t'' (t5++r) (it+1)
      rw [if_pos (kz8 e7)] at h5
      exact (Pr.jq8 h5).trans rfl
     obtain ⟨fs,k4,k5⟩:=tmpl_run x.l ms h2 h7.2 ((t5++r).length+1) t5 r (it+1) (by
      have:=congrArg List.length e8
      rw [List.length_map,List.length_map,List.length_append,List.length_cons,List.length_nil] at this
      rw [List.length_append]
      omega) e8 (by omega)
     have k6:Pr.template ⟨t'::(t3++(t''::t5++r)),it+1,0⟩=(⟨{Pr.flat0 with kind:=13,name:=x.h.name,names:=x.h.names},fs⟩,⟨r,it+1+x.l.length,0⟩):=by
      refine (Pr.jq8 k1).trans ?_
      refine (Pr.jq8 k2).trans ?_
      refine (Pr.jx5 k3).trans ?_
      refine (Pr.jq8 (m:=Pr.long Pr.tmplMore) (s:=⟨t5++r,it+1,0⟩) k4).trans ?_
      rfl
     refine ⟨⟨_,_,rfl⟩,⟨{Pr.flat0 with kind:=13,name:=x.h.name,pos:=t.pos,names:=x.h.names},fs⟩,?_,back_pos h4 t.pos,k5⟩
     rw [show (t::t'::(t3++t''::t5))++r=t::t'::(t3++(t''::t5++r)) from by simp]
     refine (Pr.jq8 hs).trans ?_
     dsimp only
     rw [if_pos rfl]
     refine (Pr.jq8 k6).trans ?_
     rfl
    ·rw [if_neg hb] at e;cases e
 ·rw [if_neg hk] at e
  obtain ⟨l,rfl,h1,h2,h3⟩:=flatL_some e
  obtain ⟨w,k,hb,h4,h5,h6,hw⟩:=flat_back h1 h2 h7.1
  have et:ts.map tkey=l.map Kd:=by rw [et];simp
  obtain ⟨t,us,f,rfl,g1,g2,g3⟩:=body_run hb hw h4 ts r it et (by omega)
  rw [h3,List.length_nil,Nat.add_zero]
  refine ⟨⟨_,_,rfl⟩,⟨{f with pos:=t.pos},[]⟩,?_,g3,by rw [h3];trivial⟩
  refine (Pr.jq8 g1).trans ?_
  show (if k=13 then (_:Pr.M Pr.Item) else _) _=_
  rw [if_neg h5]
  exact (Pr.jq8 g2).trans rfl
theorem sizes_inner: ∀(l:List Tree),(∀z∈l,z.l= [])→sizes l=l.length
 | [],_=>rfl
 |x::l,h=>by
  rw [kq4,h x (List.mem_cons_self ..),sizes_inner l (fun z hz=>h z (List.mem_cons_of_mem _ hz)),List.length_cons]
  show 0+1+l.length=_
  omega
theorem each_flat: ∀(l:List Tree) (ls:List Line),each innerL l=some ls→ ∀z∈l,z.l= []
 | [],_,_,z,hz=>by cases hz
 |x::l,ls,h,z,hz=>by
  obtain ⟨a,b,h1,h2,rfl⟩:=kz1 h
  rcases List.mem_cons.1 hz with rfl|hz
  ·unfold innerL at h1
   split at h1
   ·obtain ⟨_,_,_,_,h3⟩:=flatL_some h1;exact h3
   ·cases h1
  ·exact each_flat l b h2 z hz
theorem item_deep {x:Tree} {ls:List Line} (e:itemL x=some ls): ∀z∈x.l,z.l= []:=by
 unfold itemL at e
 split at e
 ·split at e
  ·cases e
  ·split at e
   ·cases e
   ·next h=>exact each_flat _ _ h
 ·obtain ⟨_,_,_,_,h3⟩:=flatL_some e
  rw [h3];intro z hz;cases hz
theorem items_run: ∀(l:List Tree) (ls:List Line),each itemL l=some ls→(∀x∈l,H7 x)→ ∀(k:Nat) (ts:List Tok) (it:Nat),(ls.flatMap (fun l:Line=>l.2)).length<k→ts.map tkey=(ls.flatMap (fun l:Line=>l.2)).map Kd→it+sizes l≤600→
  ∃ys,Pr.itemsMore k ⟨ts,it,0⟩=(ys,⟨[],it+sizes l,0⟩)∧Al2 EqT l (ys.map rst)
 | [],ls,h,h7,k,ts,it,hk,e,hi=>by
  injection h with h
  subst h
  obtain ⟨k,rfl⟩: ∃j,k=j+1:=⟨k-1,by omega⟩
  rw [keys_nil e]
  exact ⟨[],rfl,trivial⟩
 |x::l,ls,h,h7,k,ts,it,hk,e,hi=>by
  obtain ⟨a,b,h1,h2,rfl⟩:=kz1 h
  rw [List.flatMap_append] at hk e
  rw [List.map_append] at e
  obtain ⟨t1,t2,rfl,e1,e2⟩:=List.map_eq_append_iff.1 e
  rw [kq4,sizes_inner _ (item_deep h1)] at hi ⊢
  obtain ⟨⟨t,us,rfl⟩,y,g1,g2⟩:=item_run h1 (h7 x (List.mem_cons_self ..)) t1 t2 it e1 (by omega)
  have hl:1≤(a.flatMap (fun l:Line=>l.2)).length:=by
   have:=congrArg List.length e1
   rw [List.length_map,List.length_map,List.length_cons] at this
   omega
  rw [List.length_append] at hk
  obtain ⟨k,rfl⟩: ∃j,k=j+1:=⟨k-1,by omega⟩
  obtain ⟨ys,g3,g4⟩:=items_run l b h2 (fun z hz=>h7 z (List.mem_cons_of_mem _ hz)) k t2 (it+1+x.l.length) (by omega) e2 (by omega)
  rw [show it+1+x.l.length+sizes l=it+(x.l.length+1+sizes l) from by omega] at g3
  refine ⟨y::ys,?_,g2,g4⟩
  refine (Pr.jq8 (m:=Pr.more) (s:=⟨(t::us)++t2,it,0⟩) (a:=true) (s':=⟨(t::us)++t2,it,0⟩) rfl).trans ?_
  rw [if_pos rfl]
  refine (Pr.jq8 g1).trans ?_
  refine (Pr.jq8 g3).trans ?_
  rfl
theorem exp2 {β:Type} {M:List Bytes} {g:Pr.M β} {x y:Bytes} {ys:List Bytes} {b:β} (h:Run M g ys b):Run M (Pr.seq (Pr.expect [x,y]) g) (x::y::ys) b:=by
 have h1:Run [] (Pr.expect [x,y]) ([x]++([y]++ [])) ():=Run.bnd (N:= []) (M:= []) (a:=true) (f:=fun b=>if b=true then Pr.expect [y] else Pr.fail) (Run.yes0 [] x) (Run.bnd (N:= []) (M:= []) (a:=true) (f:=fun b=>if b=true then Pr.expect [] else Pr.fail) (Run.yes0 [] y) (Run.ret [] ()) (by intro x hx;exact hx)) (by simp [Fol])
 exact Run.seq (xs:= [x,y]) h1 h (by cases ys<;>simp [Fol])
theorem header_run {s:Src} {l:List Bytes} (e:firstT s=some l): ∃S:Pr.Source,Run [] Pr.header l S∧S.name=s.name∧rsc S.frm=s.frm∧(S.days:Int)=s.days∧S.items= []:=by
 obtain ⟨a1,r1,h1,g1,rfl⟩:=jq4 e
 obtain ⟨a2,r2,h2,g2,rfl⟩:=jq4 g1
 obtain ⟨a3,r3,h3,g3,rfl⟩:=jq4 g2
 obtain ⟨a4,r4,h4,g4,rfl⟩:=jq4 g3
 obtain ⟨a5,r5,h5,g5,rfl⟩:=jq4 g4
 obtain ⟨a6,a7,h6,h7,rfl⟩:=jq4 g5
 obtain ⟨hn,rfl⟩:=jz4 h2
 obtain ⟨hd,rfl⟩:=jv8 h6
 rw [jx4 h1,jx4 h3,jx4 h5,jx4 h7]
 obtain ⟨k1,k2,k3,k4⟩:=date_run h4
 have q1:Run [] (Pr.bnd Pr.date fun d=>Pr.seq (Pr.expect [[102,111,114]]) (Pr.bnd Pr.number fun k=>Pr.seq (Pr.expect [[100,97,121,115],[59]]) (Pr.ret (⟨s.name,d,k,[]⟩:Pr.Source)))) (a4++([102,111,114]::dec s.days:: [100,97,121,115]:: [59]:: [])) _:=Run.bnd k1 (Run.exp (Run.num hd (exp2 (Run.ret _ _)))) (by simp [Fol])
 have q2:Run [] Pr.header ([99,111,110,116,114,97,99,116]::s.name:: [102,114,111,109]::(a4++([102,111,114]::dec s.days:: [100,97,121,115]:: [59]:: []))) _:=Run.exp (Run.name hn (Run.exp q1))
 refine ⟨_,q2,rfl,?_,Int.toNat_of_nonneg hd.1,rfl⟩
 show (⟨((s.frm.y.toNat:Nat):Int),((s.frm.m.toNat:Nat):Int),((s.frm.d.toNat:Nat):Int)⟩:Civil)=s.frm
 rw [Int.toNat_of_nonneg k2,Int.toNat_of_nonneg k3,Int.toNat_of_nonneg k4]
theorem parse_print {s:Src} {F:Bytes} (h:print s= .ok F) (h7: ∀x∈s.items,H7 x): ∃S,Pr.parse F= .ok S∧EqS s (rss S):=by
 obtain ⟨ls,h1,rfl,h2,h3,h4⟩:=print_some h
 have hok:=srcL_ok h1
 obtain ⟨ts,h5,h6⟩:=lex_text ls (fun l hl=>(hok l hl).2) h4 h3
 unfold srcL at h1
 cases hf:firstT s with
 |none=>rw [hf] at h1;cases h1
 |some l=>
  rw [hf] at h1
  obtain ⟨a,b,e1,e2,rfl⟩:=kz1 h1
  injection e1 with e1
  subst e1
  have e3:ts.map tkey=(l++b.flatMap (fun l:Line=>l.2)).map Kd:=h6
  rw [List.map_append] at e3
  obtain ⟨t1,t2,rfl,e4,e5⟩:=List.map_eq_append_iff.1 e3
  obtain ⟨S,g1,g2,g3,g4,g5⟩:=header_run hf
  have k1:=g1 t1 t2 0 e4 (by simp)
  obtain ⟨ys,k2,k3⟩:=items_run s.items b e2 h7 (t2.length+1) t2 0 (by
   have:=congrArg List.length e5
   rw [List.length_map,List.length_map] at this
   omega) e5 (by omega)
  have k4:Pr.source ⟨t1++t2,0,0⟩=({S with items:=ys},⟨[],0+sizes s.items,0⟩):=(Pr.jq8 k1).trans ((Pr.jq8 (show Pr.long Pr.itemsMore ⟨t2,0,0⟩=_ from k2)).trans rfl)
  refine ⟨{S with items:=ys},?_,g2,g3,g4,k3⟩
  unfold Pr.parse
  rw [h5]
  show (if (Pr.source ⟨t1++t2,0,0⟩).2.err=0 then _ else _)=_
  rw [k4]
  rfl
end Go.Proofs.YtfficindoecpfaaGreatDoor.Pt
