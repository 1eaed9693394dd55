/-
  What the symbols of a source are, in plain Lean. No condition.
-/
set_option linter.unusedVariables false
namespace Go.Proofs.YtfficindoecpfaaGreatDoor.Rs
abbrev Bytes:=List UInt8
structure Ratio where
 num:Int
 den:Int
structure Civil where
 y:Int
 m:Int
 d:Int
structure Span where
 days:Int
 bus:Bool
 name:Bytes
structure Named where
 name:Bytes
 is_:Int
structure Item where
 kind:Int
 name:Bytes
 pos:Int
 of_:Bytes
 act:Bytes
 word:Int
 times:Int
 within:Span
 grace:Span
 conds:List Named
 by_:Bytes
 til:Bytes
 num:Ratio
 unit:Bytes
 sum:Bytes
 fin:Bool
 give:Bytes
 to_:Bytes
 days:List Bool
 dates:List Civil
 names:List Bytes
structure Source where
 name:Bytes
 frm:Civil
 days:Int
 items:List Item
def group (k:Int):Nat:=if k=1 then 1 else if k=2 then 2 else if k=3 then 3 else if k=8 then 4 else if k=9∨k=10∨k=11∨k=12 then 5 else 0
def most (g:Nat):Nat:=if g=1 then 12 else if g=2 then 12 else if g=3 then 20 else if g=4 then 60 else if g=5 then 400 else 0
abbrev Tab:=Nat→List Bytes
def tab0:Tab:=fun _=> []
def Tab.add (t:Tab) (g:Nat) (x:Bytes):Tab:=fun h=>if h=g then t h++ [x] else t h
def twice (t:Tab) (x:Item):Bool:=decide (group x.kind≠0)&&(t (group x.kind)).contains x.name
def member (t:Tab) (x:Item):Bool:=decide (group x.kind≠0)&&!(t (group x.kind)).contains x.name&&decide ((t (group x.kind)).length<most (group x.kind))
def put (t:Tab) (x:Item):Tab:=if member t x then t.add (group x.kind) x.name else t
def marks:Tab→List Item→List (Bool×Bool)
 |_,[]=> []
 |t,x::l=>(twice t x,member t x)::marks (put t x) l
def tabs (t:Tab) (l:List Item):Tab:=l.foldl put t
def find (t:Tab) (g:Nat) (x:Bytes):Option Nat:=(t g).findIdx? (· ==x)
def ix (t:Tab) (g:Nat) (x:Bytes):Int:=match find t g x with|some i=>(i:Int)|none=>0
def has (t:Tab) (g:Nat) (x:Bytes):Bool:=(find t g x).isSome
def ixo (t:Tab) (g:Nat) (x:Bytes):Int:=if x= [] then-1 else ix t g x
def haso (t:Tab) (g:Nat) (x:Bytes):Bool:=decide (x= [])||has t g x
def before (m:Int):Int:=if m≤1 then 0 else if m=2 then 31 else if m=3 then 59 else if m=4 then 90 else if m=5 then 120 else if m=6 then 151 else if m=7 then 181 else if m=8 then 212 else if m=9 then 243 else if m=10 then 273 else if m=11 then 304 else if m=12 then 334 else 365
def leap (y:Int):Bool:=decide (y%4=0)&&(decide (y%100≠0)||decide (y%400=0))
def daysBefore (y m:Int):Int:=before m+if decide (m>2)&&leap y then 1 else 0
def leaps (y:Int):Int:=y/4-y/100+y/400
def newYear (y:Int):Int:=(y-1990)*365+leaps (y-1)-leaps 1989
def number (c:Civil):Option Int:=
 if c.y<1990∨c.y>2189∨c.m<1∨c.m>12 then none
 else if c.d<1∨c.d>daysBefore c.y (c.m+1)-daysBefore c.y c.m then none
 else some (newYear c.y+daysBefore c.y c.m+c.d-1)
structure Unit_ where
 name:Bytes
 kind:Int
 base:Int
 factor:Ratio
structure ActType where
 kind:Int
 role:Int
 give:Int
 to_:Int
 unit:Int
 lot:Ratio
structure Cond where
 clause:Int
 is_:Int
structure Clause where
 kind:Int
 role:Int
 act:Int
 need:Int
 start:List Cond
 fin:Bool
 pause:Int
 resume:Int
 value:Ratio
 unit:Int
 to_:Int
structure ActSym where
 name:Bytes
 pos:Int
 act:ActType
structure ClauseSym where
 name:Bytes
 pos:Int
 within:Span
 grace:Span
 clause:Clause
structure Sy where
 weekend:List Bool
 hol:List Int
 parties:List Bytes
 roles:List (Bytes×Int)
 units:List Unit_
 acts:List ActSym
 clauses:List ClauseSym
def sy0:Sy:=⟨[false,false,false,false,false,false,false],[],[],[],[],[],[]⟩
def unitOf (t:Tab) (x:Item):Unit_:=if x.unit= [] then ⟨x.name,x.word,ix t 3 x.name,⟨1,1⟩⟩ else ⟨x.name,x.word,ix t 3 x.unit,x.num⟩
def unitOk (t:Tab) (x:Item):Bool:=if x.unit= [] then has t 3 x.name else has t 3 x.unit
def gives (x:Item):Bool:=decide (x.word=2)||decide (x.word=3)
def actOf (t:Tab) (x:Item):ActType:=
 if gives x then ⟨x.word,if x.of_= [] then-1 else ix t 2 x.of_,ix t 2 x.give,ix t 1 x.to_,-1,⟨0,1⟩⟩
 else if x.unit= [] then ⟨x.word,if x.of_= [] then-1 else ix t 2 x.of_,0,ixo t 2 x.to_,-1,⟨0,1⟩⟩
 else ⟨x.word,if x.of_= [] then-1 else ix t 2 x.of_,0,ixo t 2 x.to_,ix t 3 x.unit,x.num⟩
def actOk (t:Tab) (x:Item):Bool:=haso t 2 x.of_&&if gives x then has t 2 x.give&&has t 1 x.to_ else haso t 2 x.to_&&haso t 3 x.unit
def condOf (t:Tab) (c:Named):Cond:=⟨ix t 5 c.name,c.is_⟩
def clauseKind (k:Int):Int:=if k=9 then 1 else if k=10 then 2 else if k=11 then 3 else 4
def clauseOf (t:Tab) (x:Item):Clause:=
 {kind:=clauseKind x.kind,role:=if x.kind=12 then-1 else ix t 2 x.of_,act:=ix t 4 x.act,need:=if x.kind=9 then x.times else 1,start:=x.conds.map (condOf t),fin:=x.fin,pause:=ixo t 4 x.by_,resume:=ixo t 4 x.til,
  value:=if x.unit= [] then ⟨0,1⟩ else x.num,unit:=ixo t 3 x.unit,to_:=if x.unit= [] then-1 else ix t 2 x.to_}
def clauseOk (t:Tab) (x:Item):Bool:=decide (x.within.name= [])&&decide (x.grace.name= [])&&decide (x.sum= [])&&(decide (x.kind=12)||has t 2 x.of_)&&has t 4 x.act&&x.conds.all (fun c=>has t 5 c.name)&&haso t 4 x.by_&&haso t 4 x.til
 &&(decide (x.unit= [])||has t 3 x.unit&&has t 2 x.to_)
def hput (l:List Int) (d:Int):List Int:=if l.contains d then l else l++ [d]
def holiday (s:Sy) (x:Item):Sy×Int:=
 if x.dates.any (fun c=>(number c).isNone) then (s,2)
 else
  let h:=(x.dates.filterMap number).foldl hput s.hol
  ({s with hol:=h},if h.length>400 then 3 else 0)
def orDays (a b:List Bool):List Bool:=List.zipWith (· || ·) a b
def item (t:Tab) (s:Sy) (x:Item) (tw mb:Bool):Sy×Int:=
 if x.kind=4 then ({s with weekend:=orDays s.weekend x.days},0)
 else if x.kind=5 then holiday s x
 else if group x.kind=0 then (s,10)
 else if tw then (s,9)
 else if !mb then (s,3)
 else if x.kind=1 then ({s with parties:=s.parties++ [x.name]},0)
 else if x.kind=2 then ({s with roles:=s.roles++ [(x.name,ix t 1 x.of_)]},if has t 1 x.of_ then 0 else 8)
 else if x.kind=3 then ({s with units:=s.units++ [unitOf t x]},if unitOk t x then 0 else 8)
 else if x.kind=8 then ({s with acts:=s.acts++ [⟨x.name,x.pos,actOf t x⟩]},if actOk t x then 0 else 8)
 else ({s with clauses:=s.clauses++ [⟨x.name,x.pos,x.within,x.grace,clauseOf t x⟩]},if clauseOk t x then 0 else 8)
structure Fault where
 err:Int
 pos:Int
def items (t:Tab):Sy→List Fault→List Item→List (Bool×Bool)→Sy×List Fault
 |s,f,x::l,m::ms=>let r:=item t s x m.1 m.2;items t r.1 (if r.2=0 then f else f++ [⟨r.2,x.pos⟩]) l ms
 |s,f,_,_=>(s,f)
def run (l:List Item):Sy×List Fault:=items (tabs tab0 l) sy0 [] l (marks tab0 l)
def insert (d:Int):List Int→List Int
 | []=> [d]
 |x::l=>if d≤x then d::x::l else x::insert d l
end Go.Proofs.YtfficindoecpfaaGreatDoor.Rs
