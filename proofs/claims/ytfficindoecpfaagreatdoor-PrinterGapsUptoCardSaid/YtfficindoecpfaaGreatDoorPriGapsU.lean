/-
  The law of the gaps, about the plain printer's text.
-/
import Derived.Test.YtfficindoecpfaaGreatDoorPkPriP
namespace Go.Proofs.YtfficindoecpfaaGreatDoor.Pt
open Rs Ic
set_option linter.unusedVariables false
set_option linter.unusedSimpArgs false
def okC (a b c:UInt8):Prop:=c≠9∧c≠35∧(c=10→b≠32∧b≠10)∧(c=32→b=32→a=10)
def chk (a b:UInt8):Bytes→Prop
 | []=>True
 |c::l=>okC a b c∧chk b c l
def two (a b:UInt8):Bytes→UInt8×UInt8
 | []=>(a,b)
 |c::l=>two b c l
theorem chk_app (a b:UInt8) (x y:Bytes):chk a b (x++y)↔chk a b x∧chk (two a b x).1 (two a b x).2 y:=by
 induction x generalizing a b with
 |nil=>simp [chk,two]
 |cons c x ih=>simp only [List.cons_append,chk,two,ih,and_assoc]
theorem two_app (a b:UInt8) (x y:Bytes):two a b (x++y)=two (two a b x).1 (two a b x).2 y:=by
 induction x generalizing a b with
 |nil=>rfl
 |cons c x ih=>simp only [List.cons_append,two,ih]
theorem chk_plain (a b:UInt8) (x:Bytes) (h: ∀c∈x,plainB c):chk a b x:=by
 induction x generalizing a b with
 |nil=>trivial
 |cons c x ih=>
  obtain ⟨h1,h2,h3,h4⟩:=h c (List.mem_cons_self ..)
  exact ⟨⟨h1,h2,fun e=>absurd e h3,fun e=>absurd e h4⟩,ih _ _ (fun d hd=>h d (List.mem_cons_of_mem _ hd))⟩
theorem two_plain (a b:UInt8) (x:Bytes) (hx:x≠ []) (h: ∀c∈x,plainB c):plainB (two a b x).2:=by
 induction x generalizing a b with
 |nil=>exact absurd rfl hx
 |cons c x ih=>
  cases x with
  |nil=>exact h c (List.mem_cons_self ..)
  |cons d x=>exact ih b c (by simp) (fun e he=>h e (List.mem_cons_of_mem _ he))
theorem chk_line (l:List Bytes) (h: ∀x∈l,TokB x): ∀(last:Bytes) (a b:UInt8),last= []∨plainB b→chk a b (lineText last l)∧(l≠ []→plainB (two a b (lineText last l)).2):=by
 induction l with
 |nil=>intro last a b _;exact ⟨trivial,fun h=>absurd rfl h⟩
 |cons x l ih=>
  intro last a b hb
  have hx:=h x (List.mem_cons_self ..)
  have hs:chk a b (sepOf last x):=by
   unfold sepOf
   split
   ·trivial
   ·next e=>
    have hne:last≠ []:=fun e2=>by subst e2;exact e (by simp [joined])
    have hp:=hb.resolve_left hne
    exact ⟨⟨by decide,by decide,fun e=>absurd e (by decide),fun _ e=>absurd e hp.2.2.2⟩,trivial⟩
  obtain ⟨⟨a2,b2⟩,hp2⟩: ∃z,two a b (sepOf last x)=z:=⟨_,rfl⟩
  have h1:=chk_plain a2 b2 x hx.2
  have h2:=two_plain a2 b2 x hx.1 hx.2
  obtain ⟨⟨a3,b3⟩,hp3⟩: ∃z,two a2 b2 x=z:=⟨_,rfl⟩
  rw [hp3] at h2
  obtain ⟨h3,h4⟩:=ih (fun y hy=>h y (List.mem_cons_of_mem _ hy)) x a3 b3 (.inr h2)
  simp only [lineText,List.append_assoc]
  rw [chk_app,chk_app,two_app,two_app,hp2]
  dsimp only
  rw [hp3]
  dsimp only
  refine ⟨⟨hs,h1,h3⟩,fun _=>?_⟩
  cases l with
  |nil=>simpa [lineText,two] using h2
  |cons y l=>exact h4 (by simp)
theorem chk_one {l:Line} (h:LineOk l) (a:UInt8):chk a 10 (oneLine l)∧(two a 10 (oneLine l)).2=10:=by
 obtain ⟨b,l⟩:=l
 obtain ⟨h1,h2⟩:=h
 have key: ∀a b,chk a b (lineText [] l++ [10])∧(two a b (lineText [] l++ [10])).2=10:=by
  intro a b
  obtain ⟨h3,h4⟩:=chk_line l (fun x hx=>(h2 x hx).tokB) [] a b (.inl rfl)
  have h5:=h4 h1
  rw [chk_app,two_app]
  exact ⟨⟨h3,⟨by decide,by decide,fun _=>⟨h5.2.2.2,h5.2.2.1⟩,fun e=>absurd e (by decide)⟩,trivial⟩,rfl⟩
 unfold oneLine
 cases b with
 |false=>
  show chk a 10 ([]++lineText [] l++ [10])∧(two a 10 ([]++lineText [] l++ [10])).2=10
  rw [List.nil_append];exact key a 10
 |true=>
  show chk a 10 ([32,32]++lineText [] l++ [10])∧(two a 10 ([32,32]++lineText [] l++ [10])).2=10
  rw [List.append_assoc,chk_app,two_app]
  obtain ⟨h3,h4⟩:=key 32 32
  exact ⟨⟨⟨⟨by decide,by decide,fun e=>absurd e (by decide),fun _ e=>absurd e (by decide)⟩,⟨by decide,by decide,fun e=>absurd e (by decide),fun _ _=>rfl⟩,trivial⟩,h3⟩,h4⟩
theorem chk_text (ls:List Line) (h: ∀l∈ls,LineOk l): ∀a,chk a 10 (textOf ls)∧(two a 10 (textOf ls)).2=10:=by
 induction ls with
 |nil=>intro a;exact ⟨trivial,rfl⟩
 |cons l ls ih=>
  intro a
  obtain ⟨h1,h2⟩:=chk_one (h l (List.mem_cons_self ..)) a
  unfold textOf
  rw [List.flatMap_cons,chk_app,two_app]
  obtain ⟨⟨b2,c2⟩,e⟩: ∃z,two a 10 (oneLine l)=z:=⟨_,rfl⟩
  rw [e] at h2
  rw [e]
  dsimp only at h2 ⊢
  subst h2
  exact ⟨⟨h1,(ih (fun x hx=>h x (List.mem_cons_of_mem _ hx)) b2).1⟩,(ih (fun x hx=>h x (List.mem_cons_of_mem _ hx)) b2).2⟩
theorem chk_at (x:Bytes): ∀(a b:UInt8),chk a b x→ ∀i (c:UInt8),x[i]?=some c→okC (if i=0 then a else if i=1 then b else (x[i-2]?).getD 0) (if i=0 then b else (x[i-1]?).getD 0) c:=by
 induction x with
 |nil=>intro a b _ i c h;simp at h
 |cons d x ih=>
  intro a b hc i c hi
  cases i with
  |zero=>simp at hi;subst hi;exact hc.1
  |succ i=>
   rw [List.getElem?_cons_succ] at hi
   have:=ih b d hc.2 i c hi
   cases i with
   |zero=>simpa using this
   |succ i=>
    cases i with
    |zero=>simpa using this
    |succ i=>simpa using this
theorem two_last (x:Bytes): ∀(a b:UInt8),x≠ []→x[x.length-1]?=some (two a b x).2:=by
 induction x with
 |nil=>exact fun _ _ h=>absurd rfl h
 |cons c x ih=>
  intro a b _
  cases x with
  |nil=>rfl
  |cons d x=>
   have h:=ih b c (by simp)
   show (c::d::x)[(d::x).length+1-1]?=some (two b c (d::x)).2
   rw [Nat.add_sub_cancel,←h]
   show (c::d::x)[x.length+1]?=(d::x)[x.length+1-1]?
   rw [List.getElem?_cons_succ,Nat.add_sub_cancel]
structure GapsOk (F:Bytes):Prop where
 chr: ∀(i:Nat) (c:UInt8),F[i]?=some c→c≠9∧c≠35
 fst:F[0]?=some 99
 feed: ∀i:Nat,F[i+1]?=some 10→ ∀b:UInt8,F[i]?=some b→b≠32∧b≠10
 blk: ∀i:Nat,F[i+2]?=some 32→F[i+1]?=some 32→F[i]?=some 10
 len:1<F.length
 last:F[F.length-1]?=some 10
theorem src_first {s:Src} {ls:List Line} (h:srcL s=some ls): ∃l r,ls=(false,[99,111,110,116,114,97,99,116]::l)::r:=by
 unfold srcL at h
 cases hf:firstT s with
 |none=>rw [hf] at h;cases h
 |some ts=>
  rw [hf] at h
  have h:catL (some [(false,ts)]) (each itemL s.items)=some ls:=h
  obtain ⟨x,y,hx,hy,rfl⟩:=kq5 h
  injection hx with hx
  subst hx
  unfold firstT at hf
  obtain ⟨l,hl⟩: ∃l,ts= [99,111,110,116,114,97,99,116]::l:=by
   have hf:cat (ok [[99,111,110,116,114,97,99,116]]) _=some ts:=hf
   unfold cat at hf
   simp only [ok] at hf
   split at hf
   ·cases hf
   ·next y _=>injection hf with hf;exact ⟨y,hf.symm⟩
  subst hl
  exact ⟨l,y,rfl⟩
theorem gaps_ok {s:Src} {F:Bytes} (h:print s= .ok F):GapsOk F:=by
 obtain ⟨ls,hs,rfl,_,_,_⟩:=print_some h
 have hok:=srcL_ok hs
 obtain ⟨l,r,rfl⟩:=src_first hs
 obtain ⟨hc,h2⟩:=chk_text _ hok 0
 obtain ⟨z,hz⟩: ∃z,textOf ((false,[99,111,110,116,114,97,99,116]::l)::r)= [99,111,110,116,114,97,99,116]++z:=by
  refine ⟨lineText [99,111,110,116,114,97,99,116] l++ [10]++textOf r,?_⟩
  show ([]++(sepOf [] [99,111,110,116,114,97,99,116]++ [99,111,110,116,114,97,99,116]++lineText [99,111,110,116,114,97,99,116] l)++ [10])++textOf r=_
  show ([]++([]++ [99,111,110,116,114,97,99,116]++lineText [99,111,110,116,114,97,99,116] l)++ [10])++textOf r=_
  simp only [List.nil_append,List.append_assoc]
 have hat:=chk_at _ 0 10 hc
 have hne:textOf ((false,[99,111,110,116,114,97,99,116]::l)::r)≠ []:=by rw [hz];simp
 have hlast:=two_last _ 0 10 hne
 rw [h2] at hlast
 refine ⟨fun i c hi=>⟨(hat i c hi).1,(hat i c hi).2.1⟩,by rw [hz];rfl,fun i hi b hb=>?_,fun i h2 h1=>?_,?_,hlast⟩
 ·have h3:=(hat (i+1) 10 hi).2.2.1 rfl
  rw [if_neg (by omega),Nat.add_sub_cancel,hb] at h3
  exact h3
 ·have hil:i<(textOf ((false,[99,111,110,116,114,97,99,116]::l)::r)).length:=by have:=(List.getElem?_eq_some_iff.1 h2).1;omega
  have h3:=(hat (i+2) 32 h2).2.2.2 rfl
  rw [if_neg (by omega),if_neg (by omega),if_neg (by omega),show i+2-1=i+1 from by omega,show i+2-2=i from by omega,h1] at h3
  have h4:=h3 rfl
  rw [List.getElem?_eq_getElem hil] at h4 ⊢
  exact congrArg some h4
 ·rw [hz];simp
end Go.Proofs.YtfficindoecpfaaGreatDoor.Pt
