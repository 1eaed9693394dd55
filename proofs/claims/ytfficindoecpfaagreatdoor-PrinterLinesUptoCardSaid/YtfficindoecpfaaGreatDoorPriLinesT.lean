/-
  The law of the lines, about the plain printer.
-/
import Derived.Test.YtfficindoecpfaaGreatDoorPkPriP
namespace Go.Proofs.YtfficindoecpfaaGreatDoor.Pt
open Rs Ic
set_option linter.unusedVariables false
theorem each_app (f:Tree→Option (List Line)) (x y:List Tree):each f (x++y)=catL (each f x) (each f y):=by
 induction x with
 |nil=>
  show each f y=catL (some []) (each f y)
  cases each f y<;>rfl
 |cons a x ih=>
  show catL (f a) (each f (x++y))=catL (catL (f a) (each f x)) (each f y)
  rw [ih]
  cases f a with
  |none=>rfl
  |some p=>
   cases each f x with
   |none=>rfl
   |some q=>
    cases each f y with
    |none=>rfl
    |some r=>show some (p++(q++r))=some (p++q++r);rw [List.append_assoc]
def aft:Bytes→Bytes
 | []=> []
 |c::l=>if c=10 then l else aft l
theorem aft_app (x y:Bytes) (h: ∀c∈x,c≠10):aft (x++10::y)=y:=by
 induction x with
 |nil=>exact if_pos rfl
 |cons c x ih=>
  show (if c=10 then _ else aft (x++10::y))=y
  rw [if_neg (h c (List.mem_cons_self ..))]
  exact ih (fun d hd=>h d (List.mem_cons_of_mem _ hd))
theorem line_no (l:List Bytes) (h: ∀x∈l,TokB x): ∀last,∀c∈lineText last l,c≠10:=by
 induction l with
 |nil=>intro last c hc;cases hc
 |cons x l ih=>
  intro last c hc
  have hc:c∈sepOf last x++x++lineText x l:=hc
  rcases List.mem_append.1 hc with hc|hc
  ·rcases List.mem_append.1 hc with hc|hc
   ·unfold sepOf at hc
    split at hc
    ·cases hc
    ·rcases List.mem_singleton.1 hc with rfl
     decide
   ·exact ((h x (List.mem_cons_self ..)).2 c hc).2.2.1
  ·exact ih (fun y hy=>h y (List.mem_cons_of_mem _ hy)) x c hc
def over (n:Nat) (ls:List Line):Prop:=600<n∨5000<toksOf ls∨20000<(textOf ls).length
instance (n:Nat) (ls:List Line):Decidable (over n ls):=by unfold over;exact inferInstance
theorem print_form (s:Src):print s=match firstT s with
  |none=> .error 1
  |some t=>match each itemL s.items with
   |none=> .error 1
   |some ls=>if over (sizes s.items) ((false,t)::ls) then .error 3 else .ok (textOf ((false,t)::ls)):=by
 unfold print srcL
 cases firstT s with
 |none=>rfl
 |some t=>
  cases each itemL s.items with
  |none=>rfl
  |some ls=>rfl
structure Lines (a b c:Except Int Bytes):Prop where
 arg:a= .error 1∨b= .error 1→c= .error 1
 lim: ¬(a= .error 1∨b= .error 1)→(∀x y z,¬(a= .ok x∧b= .ok y∧c= .ok z))→c= .error 3
 ok: ∀x y z,a= .ok x→b= .ok y→c= .ok z→z=x++aft y
theorem lines_ok (a:Src) (l:List Tree):Lines (print a) (print {a with items:=l}) (print {a with items:=a.items++l}):=by
 rw [print_form a,print_form {a with items:=l},print_form {a with items:=a.items++l}]
 have e1:firstT {a with items:=l}=firstT a:=rfl
 have e2:firstT {a with items:=a.items++l}=firstT a:=rfl
 rw [e1,e2]
 cases hf:firstT a with
 |none=>exact ⟨fun _=>rfl,fun h=>absurd (.inl rfl) h,fun x y z h=>by cases h⟩
 |some t=>
  have ht: ∀c∈lineText [] t,c≠10:=line_no t (okT_first a t hf) []
  show Lines (match each itemL a.items with|none=> .error 1|some ls=>if over (sizes a.items) ((false,t)::ls) then .error 3 else .ok (textOf ((false,t)::ls))) (match each itemL l with|none=> .error 1|some ls=>if over (sizes l) ((false,t)::ls) then .error 3 else .ok (textOf ((false,t)::ls))) (match each itemL (a.items++l) with|none=> .error 1|some ls=>if over (sizes (a.items++l)) ((false,t)::ls) then .error 3 else .ok (textOf ((false,t)::ls)))
  rw [each_app,sizes_app]
  cases hA:each itemL a.items with
  |none=>exact ⟨fun _=>rfl,fun h=>absurd (.inl rfl) h,fun x y z h=>by cases h⟩
  |some A=>
   cases hB:each itemL l with
   |none=>exact ⟨fun _=>rfl,fun h=>absurd (.inr rfl) h,fun x y z _ h=>by cases h⟩
   |some B=>
    show Lines (if over (sizes a.items) ((false,t)::A) then .error 3 else .ok (textOf ((false,t)::A))) (if over (sizes l) ((false,t)::B) then .error 3 else .ok (textOf ((false,t)::B))) (if over (sizes a.items+sizes l) ((false,t)::(A++B)) then .error 3 else .ok (textOf ((false,t)::(A++B))))
    have k1:toksOf ((false,t)::A)=t.length+toksOf A:=rfl
    have k2:toksOf ((false,t)::B)=t.length+toksOf B:=rfl
    have k3:toksOf ((false,t)::(A++B))=t.length+(toksOf A+toksOf B):=by
     show t.length+toksOf (A++B)=_
     unfold toksOf
     rw [List.map_append,List.sum_append]
    have j1:textOf ((false,t)::A)=oneLine (false,t)++textOf A:=rfl
    have j2:textOf ((false,t)::B)=oneLine (false,t)++textOf B:=rfl
    have j3:textOf ((false,t)::(A++B))=oneLine (false,t)++(textOf A++textOf B):=by
     show oneLine (false,t)++textOf (A++B)=_
     unfold textOf
     rw [List.flatMap_append]
    have ex: ∀(c:Prop) [Decidable c] (x:Bytes),(if c then (Except.error 3:Except Int Bytes) else .ok x)≠ .error 1:=fun c _ x h=>by
     by_cases hc:c
     ·rw [if_pos hc] at h;cases h
     ·rw [if_neg hc] at h;cases h
    refine ⟨fun h=>?_,fun _ h=>?_,fun x y z hx hy hz=>?_⟩
    ·rcases h with h|h
     ·exact absurd h (ex _ _)
     ·exact absurd h (ex _ _)
    ·by_cases hc:over (sizes a.items+sizes l) ((false,t)::(A++B))
     ·exact if_pos hc
     ·have ha: ¬over (sizes a.items) ((false,t)::A):=fun e=>hc (by
       rcases e with e|e|e
       ·exact .inl (by omega)
       ·exact .inr (.inl (by omega))
       ·refine .inr (.inr ?_);rw [j3,List.length_append,List.length_append];rw [j1,List.length_append] at e;omega)
      have hb: ¬over (sizes l) ((false,t)::B):=fun e=>hc (by
       rcases e with e|e|e
       ·exact .inl (by omega)
       ·exact .inr (.inl (by omega))
       ·refine .inr (.inr ?_);rw [j3,List.length_append,List.length_append];rw [j2,List.length_append] at e;omega)
      exact absurd ⟨if_neg ha,if_neg hb,if_neg hc⟩ (h _ _ _)
    ·have gx:x=textOf ((false,t)::A):=by
      by_cases hc:over (sizes a.items) ((false,t)::A)
      ·rw [if_pos hc] at hx;cases hx
      ·rw [if_neg hc] at hx;injection hx with hx;exact hx.symm
     have gy:y=textOf ((false,t)::B):=by
      by_cases hc:over (sizes l) ((false,t)::B)
      ·rw [if_pos hc] at hy;cases hy
      ·rw [if_neg hc] at hy;injection hy with hy;exact hy.symm
     have gz:z=textOf ((false,t)::(A++B)):=by
      by_cases hc:over (sizes a.items+sizes l) ((false,t)::(A++B))
      ·rw [if_pos hc] at hz;cases hz
      ·rw [if_neg hc] at hz;injection hz with hz;exact hz.symm
     have ha:aft (textOf ((false,t)::B))=textOf B:=by
      rw [j2]
      show aft (([]++lineText [] t++ [10])++textOf B)=_
      rw [List.nil_append,List.append_assoc]
      exact aft_app _ _ ht
     rw [gx,gy,gz,ha,j3,j1,List.append_assoc]
end Go.Proofs.YtfficindoecpfaaGreatDoor.Pt
