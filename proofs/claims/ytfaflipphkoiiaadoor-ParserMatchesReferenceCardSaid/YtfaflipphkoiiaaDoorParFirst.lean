/-
  The parser looks only at the next token: what it does does not hang on the tokens behind those that it reads. Texts that are cut at a token; the first error of a text; the text before an item.
-/
import Derived.Test.YtfaflipphkoiiaaDoorParOff
import Derived.Test.YtfaflipphkoiiaaDoorPkLexB
set_option linter.unusedVariables false
namespace Go.Proofs.YtfaflipphkoiiaaDoor.Pr
open Lx (Tok)
def Tail2 (T T':List Tok) (s s':St):Prop:= ∃r,s.rest=r++T∧s'.rest=r++T'∧s'.items=s.items∧s'.err=s.err
theorem Built.len {α:Type} {m:M α} (h:Built m) (s:St):(m s).2.rest.length≤s.rest.length:=(h.suf s).length_le
theorem Tail2.fail {t:Tok} {vs ws:List Tok} {s s':St} (h:Tail2 (t::vs) (t::ws) s s'):Tail2 (t::vs) (t::ws) (Pr.fail s).2 (Pr.fail s').2:=by
 obtain ⟨r,h1,h2,h3,h4⟩:=h
 unfold Pr.fail
 by_cases he:s.err=0
 ·have he':s'.err=0:=by rw [h4];exact he
  simp only [he,he',ne_eq,not_true_eq_false,if_false]
  refine ⟨r,h1,h2,h3,?_⟩
  simp only [h1,h2]
  cases r<;>rfl
 ·have he':s'.err≠0:=by rw [h4];exact he
  simp only [he,he',ne_eq,not_false_eq_true,if_true]
  exact ⟨r,h1,h2,h3,h4⟩
def Tail1 (T:List Tok) (s s':St):Prop:= ∃r,s.rest=r++T∧s'.rest=r∧s'.items=s.items∧s'.err=s.err∧(s.err≠0→r≠ [])
def Cut1 {α:Type} (T:List Tok) (p p':α×St):Prop:=(p'.1=p.1∧Tail1 T p.2 p'.2)∨(p.2.err≠0∧p'.2.err=7∧p'.2.rest= [])
theorem fail_cut {α:Type} {t:Tok} {vs:List Tok} {s s':St} (a:α) (h:Tail1 (t::vs) s s'):Cut1 (t::vs) (a,(Pr.fail s).2) (a,(Pr.fail s').2):=by
 obtain ⟨r,h1,h2,h3,h4,h5⟩:=h
 unfold Pr.fail
 by_cases he:s.err=0
 ·have he':s'.err=0:=by rw [h4];exact he
  simp only [he,he',ne_eq,not_true_eq_false,if_false]
  cases r with
  |nil=>right;refine ⟨?_,?_,?_⟩<;>simp [h1,h2]
  |cons b r=>left;exact ⟨rfl,b::r,h1,h2,h3,by simp [h1,h2],fun _=>by simp⟩
 ·have he':s'.err≠0:=by rw [h4];exact he
  simp only [he,he',ne_eq,not_false_eq_true,if_true]
  exact .inl ⟨rfl,r,h1,h2,h3,h4,h5⟩
theorem Built.cut {α:Type} {m:M α} (h:Built m) {t:Tok} {vs:List Tok}: ∀s s',Tail1 (t::vs) s s'→(t::vs).length≤(m s).2.rest.length→Cut1 (t::vs) (m s) (m s'):=by
 induction h with
 |ret a=>intro s s' h _;exact .inl ⟨rfl,h⟩
 | @bnd α β m f h hf ih ihf=>
  intro s s' hs hl
  have hl1:(t::vs).length≤(f (m s).1 (m s).2).2.rest.length:=hl
  show Cut1 _ (f (m s).1 (m s).2) (f (m s').1 (m s').2)
  rcases ih s s' hs (Nat.le_trans hl1 ((hf _).len _)) with ⟨e1,e2⟩|⟨e1,e2,e3⟩
  ·rw [e1];exact ihf (m s).1 (m s).2 (m s').2 e2 hl1
  ·right
   rw [(hf _).stk _ e1,(hf _).stk _ (by rw [e2];decide)]
   exact ⟨e1,e2,e3⟩
 |fail=>intro s s' hs _;exact fail_cut () hs
 |acc x=>
  intro s s' hs hl
  obtain ⟨r,h1,h2,h3,h4,h5⟩:=hs
  left
  cases r with
  |nil=>
   have hb':isT x s'=false:=by unfold isT;rw [h2];simp
   unfold Pr.acc at hl ⊢
   rw [hb']
   cases hb:isT x s with
   |false=>exact ⟨rfl,[],h1,h2,h3,h4,h5⟩
   |true=>rw [hb] at hl;simp only [if_true] at hl;rw [h1] at hl;simp only [List.nil_append,List.tail_cons,List.length_cons] at hl;omega
  |cons a r=>
   have hi:isT x s'=isT x s:=by unfold isT;rw [h1,h2,h4];rfl
   unfold Pr.acc
   rw [hi]
   cases hb:isT x s with
   |false=>exact ⟨rfl,a::r,h1,h2,h3,h4,h5⟩
   |true=>
    have he:s.err=0:=by simp [isT] at hb;exact hb.1
    exact ⟨rfl,r,by simp [h1],by simp [h2],h3,h4,fun h=>absurd he h⟩
 |opt k=>
  intro s s' hs hl
  obtain ⟨r,h1,h2,h3,h4,h5⟩:=hs
  left
  cases r with
  |nil=>
   have hb':isK k s'=false:=by unfold isK;rw [h2];simp
   unfold Pr.opt at hl ⊢
   rw [hb']
   cases hb:isK k s with
   |false=>exact ⟨rfl,[],h1,h2,h3,h4,h5⟩
   |true=>rw [hb] at hl;simp only [if_true] at hl;rw [h1] at hl;simp only [List.nil_append,List.tail_cons,List.length_cons] at hl;omega
  |cons a r=>
   have hi:isK k s'=isK k s:=by unfold isK;rw [h1,h2,h4];rfl
   unfold Pr.opt
   rw [hi]
   cases hb:isK k s with
   |false=>exact ⟨rfl,a::r,h1,h2,h3,h4,h5⟩
   |true=>
    have he:s.err=0:=by simp [isK] at hb;exact hb.1
    exact ⟨by simp [h1,h2],r,by simp [h1],by simp [h2],h3,h4,fun h=>absurd he h⟩
 |good=>
  intro s s' hs _
  obtain ⟨r,h1,h2,h3,h4,h5⟩:=hs
  exact .inl ⟨by unfold Pr.good;rw [h4],r,h1,h2,h3,h4,h5⟩
 | @long α m hf h ih=>
  intro s s' hs hl
  have e1:Pr.long m s=m (s.rest.length+s'.rest.length+1) s:=hf _ _ s (by omega) (by omega)
  have e2:Pr.long m s'=m (s.rest.length+s'.rest.length+1) s':=hf _ _ s' (by omega) (by omega)
  rw [e1] at hl
  rw [e1,e2]
  exact ih _ s s' hs hl
 |start ws'=>
  intro s s' hs hl
  have hff:=fail_cut (none:Option (Nat×Nat)) hs
  obtain ⟨r,h1,h2,h3,h4,h5⟩:=hs
  cases r with
  |nil=>
   have he:s.err=0:=by by_cases h:s.err=0;exact h;exact absurd rfl (h5 h)
   have he':s'.err=0:=by rw [h4];exact he
   have hb':isK 1 s'=false:=by unfold isK;rw [h2];simp
   have hs':Pr.start ws' s'=(none,(Pr.fail s').2):=by unfold Pr.start;rw [hb'];rfl
   have hf':(Pr.fail s').2.err=7∧(Pr.fail s').2.rest= []:=by unfold Pr.fail;simp [he',h2]
   rw [hs']
   right
   refine ⟨?_,hf'⟩
   unfold Pr.start at hl ⊢
   cases hb:isK 1 s with
   |false=>simp only [Bool.false_eq_true,if_false];exact fail_err s
   |true=>
    rw [hb] at hl
    simp only [if_true,h1,List.nil_append] at hl ⊢
    cases hk:ws'.lookup t.text with
    |none=>simp only;exact fail_err s
    |some k=>
     rw [hk] at hl
     simp only at hl ⊢
     by_cases h6:s.items=600
     ·rw [if_pos h6];simp
     ·rw [if_neg h6] at hl;simp only [List.length_cons] at hl;omega
  |cons a r=>
   have hi:isK 1 s'=isK 1 s:=by unfold isK;rw [h1,h2,h4];rfl
   unfold Pr.start
   rw [hi]
   cases hb:isK 1 s with
   |false=>simp only [Bool.false_eq_true,if_false];exact hff
   |true=>
    simp only [if_true,h1,h2,List.cons_append]
    cases hk:ws'.lookup a.text with
    |none=>simp only;exact hff
    |some k=>
     simp only [h3]
     left
     by_cases h6:s.items=600
     ·rw [if_pos h6,if_pos h6];exact ⟨rfl,a::r,rfl,rfl,rfl,rfl,fun _=>by simp⟩
     ·rw [if_neg h6,if_neg h6];exact ⟨rfl,r,rfl,rfl,rfl,rfl,fun h=>absurd rfl h⟩
end Go.Proofs.YtfaflipphkoiiaaDoor.Pr
namespace Go.Proofs.YtfaflipphkoiiaaDoor.Pr
open Lx (Tok skip gapLen gapLen_le tokOf)
theorem items_suf: ∀n (s:St),(itemsMore n s).2.rest<:+s.rest:=by
 intro n
 induction n with
 |zero=>intro s;exact List.suffix_refl _
 |succ n ih=>
  intro s
  by_cases he:s.err≠0∨s.rest= []
  ·rw [kq3 _ _ he];exact List.suffix_refl _
  ·have he1:s.err=0:=by by_cases h0:s.err=0;exact h0;exact absurd (.inl h0) he
   have he2:s.rest≠ []:=fun h0=>he (.inr h0)
   rw [kx6 _ _ he1 he2]
   exact (ih _).trans (Built.item.suf s)
def perr (x:Bytes):Int:=match parse x with| .error (e,_)=>(e:Int)| .ok _=>0
def ppos (x:Bytes):Int:=match parse x with| .error (_,p)=>p| .ok _=>0
end Go.Proofs.YtfaflipphkoiiaaDoor.Pr
