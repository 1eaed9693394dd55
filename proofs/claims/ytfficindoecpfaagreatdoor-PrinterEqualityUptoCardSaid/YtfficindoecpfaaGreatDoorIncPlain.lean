/-
  Package include in plain words.
-/
import Derived.Test.YtfficindoecpfaaGreatDoorResPlain
set_option linter.unusedVariables false
set_option linter.unusedSimpArgs false
namespace Go.Proofs.YtfficindoecpfaaGreatDoor.Ic
open Rs
inductive Tree where
 |node (h:Item) (l:List Tree)
def Tree.h:Tree→Item
 | .node h _=>h
def Tree.l:Tree→List Tree
 | .node _ l=>l
mutual
def Tree.size:Tree→Nat
 | .node _ l=>sizes l+1
def sizes:List Tree→Nat
 | []=>0
 |x::l=>x.size+sizes l
end
theorem kq4 (x:Tree) (l:List Tree):sizes (x::l)=sizes x.l+1+sizes l:=by
 cases x with
 |node h l2=>rw [sizes,Tree.size];rfl
theorem length_sizes (l:List Tree):l.length≤sizes l:=by
 induction l with
 |nil=>exact Nat.zero_le _
 |cons x l ih=>rw [kq4,List.length_cons];omega
def isClause (k:Int):Bool:=decide (k=9)||decide (k=10)||decide (k=11)||decide (k=12)
def defines (k:Int):Bool:=decide (k=13)||decide (k=6)||decide (k=7)
structure Env where
 tmpl:Bytes→Option Tree
 span:Bytes→Option Span
 sum:Bytes→Option Item
def first (l:List Tree) (k:Int) (n:Bytes):Option Tree:=l.find? fun x=>decide (x.h.kind=k∧x.h.name=n)
def env (l:List Tree):Env:=⟨fun n=>first l 13 n,fun n=>(first l 6 n).map (·.h.within),fun n=>(first l 7 n).map (·.h)⟩
def defSpan (E:Env) (s:Span):Option Span:=if s.name= [] then some s else (E.span s.name).map fun d=>⟨d.days,d.bus,[]⟩
def defSum (E:Env) (c:Item):Option Item:=if c.sum= [] then some c else (E.sum c.sum).map fun d=> {c with num:=d.num,unit:=d.unit,sum:= []}
def define (E:Env) (c:Item):Option Item:=
 match defSpan E c.within with
 |none=>none
 |some w=>match defSpan E c.grace with
  |none=>none
  |some g=>defSum E {c with within:=w,grace:=g}
structure St where
 count:Nat
 out:List Tree
def clause (E:Env) (c:Tree) (s:St):Int×St:=
 if 600<s.count+1 then (3,⟨s.count+1,s.out⟩) else
 match define E c.h with
 |none=>(8,⟨s.count+1,s.out⟩)
 |some h=>(0,⟨s.count+1,s.out++ [.node h c.l]⟩)
def included (E:Env) (c:Tree) (pos:Int) (s:St):Int×St:=
 if 24<c.h.name.length then (3,⟨s.count+1,s.out⟩) else clause E (.node {c.h with pos:=pos} c.l) s
def arg:List Bytes→List Bytes→Bytes→Option Bytes
 |p::ps,a::as,n=>if n≠ []∧p=n then some a else arg ps as n
 |_,_,_=>none
def repl (ps as:List Bytes) (n:Bytes):Bytes:=(arg ps as n).getD n
def dot:UInt8:=46
def cut:Bytes→Option Bytes
 | []=>none
 |c::r=>if c=dot then some [] else (cut r).map (c:: ·)
def isLocal (t:Tree) (n:Bytes):Bool:=
 t.l.any (fun y=>isClause y.h.kind&&decide (y.h.name=n))||match cut n with|none=>false|some f=>t.l.any fun y=>decide (y.h.kind=14)&&decide (y.h.name=f)
def prefixed (p n:Bytes):Bytes:=p++dot::n
def instCond (t:Tree) (x:Item) (c:Named):Named:=
 match arg t.h.names x.names c.name with
 |some a=> {c with name:=a}
 |none=>if isLocal t c.name then {c with name:=prefixed x.name c.name} else c
def inst (t:Tree) (x:Item) (y:Tree):Tree:=
 if y.h.kind=14 then .node {y.h with name:=prefixed x.name y.h.name,names:=y.h.names.map (repl t.h.names x.names)} y.l
 else
  let r:=repl t.h.names x.names
  .node {y.h with name:=prefixed x.name y.h.name,of_:=r y.h.of_,act:=r y.h.act,by_:=r y.h.by_,til:=r y.h.til,unit:=r y.h.unit,sum:=r y.h.sum,to_:=r y.h.to_,within:= {y.h.within with name:=r y.h.within.name},grace:= {y.h.grace with name:=r y.h.grace.name},conds:=y.h.conds.map (instCond t x)} y.l
def each (f:Tree→St→Int×St):List Tree→St→Int×St
 | [],s=>(0,s)
 |y::l,s=>if (f y s).1=0 then each f l (f y s).2 else f y s
def incl (E:Env) (pos:Int):Nat→List Bytes→Item→St→Int×St
 |0,_,_,s=>(3,⟨s.count+1,s.out⟩)
 |n+1,op,x,s=>
  if 600<s.count+1 then (3,⟨s.count+1,s.out⟩) else
  match E.tmpl x.of_ with
  |none=>(8,⟨s.count+1,s.out⟩)
  |some t=>
   if x.names.length≠t.h.names.length then (1,⟨s.count+1,s.out⟩) else
   if t.h.name∈op then (12,⟨s.count+1,s.out⟩) else
   if 24<x.name.length then (3,⟨s.count+1,s.out⟩) else
   each (fun y s=>if isClause y.h.kind then included E (inst t x y) pos s else if y.h.kind=14 then incl E pos n (t.h.name::op) (inst t x y).h s else (1,s)) t.l ⟨s.count+1,s.out⟩
def twins:List Bytes→Bool
 | []=>false
 |x::l=>l.contains x||twins l
def examine (E:Env) (seen:List Tree) (x:Tree) (s:St):Int×St:=
 if defines x.h.kind then (if (first seen x.h.kind x.h.name).isSome||(decide (x.h.kind=13)&&twins x.h.names) then (9,s) else (0,s))
 else if x.h.kind=14 then incl E x.h.pos 601 [] x.h s
 else if isClause x.h.kind then clause E x s
 else if 600<s.count+1 then (3,⟨s.count+1,s.out⟩) else (0,⟨s.count+1,s.out++ [x]⟩)
structure Fault where
 err:Int
 pos:Int
def run (E:Env) (seen:List Tree):List Tree→St→List Fault→St×List Fault
 | [],s,f=>(s,f)
 |x::l,s,f=>
  let r:=examine E seen x s
  let f':=if r.1=0 then f else f++ [⟨r.1,x.h.pos⟩]
  if 600<r.2.count then (r.2,f') else run E (seen++ [x]) l r.2 f'
structure Src where
 name:Bytes
 frm:Civil
 days:Int
 items:List Tree
def zero:Src:=⟨[],⟨0,0,0⟩,0,[]⟩
end Go.Proofs.YtfficindoecpfaaGreatDoor.Ic
