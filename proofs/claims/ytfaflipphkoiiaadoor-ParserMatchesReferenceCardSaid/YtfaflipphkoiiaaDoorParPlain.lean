/-
  What a source text's tree is, in plain Lean: a parser over a list of tokens. No condition.
-/
import Derived.Test.YtfaflipphkoiiaaDoorLexPlain
namespace Go.Proofs.YtfaflipphkoiiaaDoor.Pr
open Lx (Tok)
abbrev Bytes:=List UInt8
structure Ratio where
 num:Nat
 den:Nat
structure Civil where
 y:Nat
 m:Nat
 d:Nat
structure Span where
 days:Nat
 bus:Bool
 name:Bytes
structure Named where
 name:Bytes
 is_:Nat
structure Flat where
 kind:Nat
 name:Bytes
 pos:Nat
 of_:Bytes
 act:Bytes
 word:Nat
 times:Nat
 within:Span
 grace:Span
 conds:List Named
 by_:Bytes
 til:Bytes
 num:Ratio
 unit:Bytes
 sum:Bytes
 fin:Bool
 give:Bytes
 to_:Bytes
 days:List Bool
 dates:List Civil
 names:List Bytes
def flat0:Flat:=⟨0,[],0,[],[],0,0,⟨0,false,[]⟩,⟨0,false,[]⟩,[],[],[],⟨0,0⟩,[],[],false,[],[],[false,false,false,false,false,false,false],[],[]⟩
structure Item where
 flat:Flat
 inner:List Flat
structure Source where
 name:Bytes
 frm:Civil
 days:Nat
 items:List Item
structure St where
 rest:List Tok
 items:Nat
 err:Nat
abbrev M (α:Type):=St→α×St
def ret {α:Type} (a:α):M α:=fun s=>(a,s)
def bnd {α β:Type} (m:M α) (f:α→M β):M β:=fun s=>f (m s).1 (m s).2
def seq {α β:Type} (m:M α) (f:M β):M β:=bnd m fun _=>f
theorem jq3 {α β:Type} {m:M α} {f:α→M β} {s s':St} {a:α} (h:m s=(a,s')):bnd m f s=f a s':=by unfold bnd;rw [h]
theorem jx1 {α β:Type} {m:M α} {f:M β} {s s':St} {a:α} (h:m s=(a,s')):seq m f s=f s':=by unfold seq bnd;rw [h]
def good:M Bool:=fun s=>(s.err==0,s)
def fail:M Unit:=fun s=>((),if s.err≠0 then s else {s with err:=match s.rest with| []=>7|_=>6})
def isT (x:Bytes) (s:St):Bool:=s.err==0&&match s.rest with| []=>false|t::_=>t.text==x
def isK (k:Nat) (s:St):Bool:=s.err==0&&match s.rest with| []=>false|t::_=>t.kind==k
def tok0:Tok:=⟨0,[],0,0⟩
def acc (x:Bytes):M Bool:=fun s=>if isT x s then (true,{s with rest:=s.rest.tail}) else (false,s)
def expect:List Bytes→M Unit
 | []=>ret ()
 |x::r=>bnd (acc x) fun b=>if b then expect r else fail
theorem jz1 {β:Type} {x:Bytes} {A B:M β} {s s':St} (h:acc x s=(true,s')):bnd (acc x) (fun b=>if b then A else B) s=A s':=by unfold bnd;rw [h];rfl
theorem jx9 {β:Type} {x:Bytes} {A B:M β} {s s':St} (h:acc x s=(false,s')):bnd (acc x) (fun b=>if b then A else B) s=B s':=by unfold bnd;rw [h];rfl
def opt (k:Nat):M (Option Tok):=fun s=>if isK k s then (s.rest.head?,{s with rest:=s.rest.tail}) else (none,s)
def take (k:Nat):M Tok:=bnd (opt k) fun o=>match o with|some t=>ret t|none=>seq fail (ret tok0)
def name:M Bytes:=bnd (take 1) fun t=>ret t.text
def number:M Nat:=bnd (take 2) fun t=>ret t.n
def ratio:M Ratio:=bnd number fun n=>bnd (acc [47]) fun b=>if b then bnd number fun d=>ret ⟨n,d⟩ else ret ⟨n,1⟩
def date:M Civil:=bnd number fun y=>seq (expect [[45]]) (bnd number fun m=>seq (expect [[45]]) (bnd number fun d=>ret ⟨y,m,d⟩))
def days:M Span:=bnd number fun n=>bnd (acc [98,117,115,105,110,101,115,115]) fun b=>seq (expect [[100,97,121,115]]) (ret ⟨n,b,[]⟩)
def span:M Span:=bnd (opt 1) fun o=>match o with|some t=>ret ⟨0,false,t.text⟩|none=>days
def namesMore:Nat→M (List Bytes)
 |0=>ret []
 |f+1=>bnd (acc [44]) fun b=>if b then bnd name fun x=>bnd (namesMore f) fun l=>ret (x::l) else ret []
def long {α:Type} (m:Nat→M α):M α:=fun s=>m (s.rest.length+1) s
def namesEnd (l:List Bytes):M (List Bytes):=seq (expect [[41]]) (ret l)
def names:M (List Bytes):=seq (expect [[40]]) (bnd (opt 1) fun o=>match o with|some t=>bnd (long namesMore) fun l=>namesEnd (t.text::l)|none=>namesEnd [])
def anyOf:List Bytes→Nat→M Nat
 | [],_=>seq fail (ret 0)
 |x::r,i=>bnd (acc x) fun b=>if b then ret i else anyOf r (i+1)
def weekday:M Nat:=anyOf [[109,111,110],[116,117,101],[119,101,100],[116,104,117],[102,114,105],[115,97,116],[115,117,110]] 0
def status:M Nat:=anyOf [[115,116,97,114,116,101,100],[100,111,110,101],[102,97,105,108,101,100],[118,111,105,100]] 1
def weekendMore:Nat→List Bool→M (List Bool)
 |0,l=>ret l
 |f+1,l=>bnd weekday fun d=>bnd good fun g=>if g then bnd (acc [44]) fun b=>if b then weekendMore f (l.set d true) else seq (expect [[59]]) (ret (l.set d true)) else ret l
def datesMore:Nat→M (List Civil)
 |0=>ret []
 |f+1=>bnd date fun d=>bnd (acc [44]) fun b=>if b then bnd (datesMore f) fun l=>ret (d::l) else ret [d]
def named:M Named:=bnd name fun n=>bnd status fun i=>ret ⟨n,i⟩
def condsMore:Nat→M (List Named)
 |0=>ret []
 |f+1=>bnd named fun d=>bnd (acc [97,110,100]) fun b=>if b then bnd (condsMore f) fun l=>ret (d::l) else ret [d]
def bearer:M (Bytes×Bytes):=seq (expect [[111,102]]) (bnd name fun o=>seq (expect [[58]]) (bnd name fun a=>ret (o,a)))
def circEnd (cs:List Named):M (List Named×Bytes×Bytes):=bnd (acc [112,97,117,115,101,100]) fun p=>
 if p then seq (expect [[98,121]]) (bnd name fun x=>seq (expect [[117,110,116,105,108]]) (bnd name fun y=>ret (cs,x,y))) else ret (cs,[],[])
def circ:M (List Named×Bytes×Bytes):=bnd (acc [105,102]) fun b=>if b then bnd (long condsMore) circEnd else circEnd []
structure Price where
 num:Ratio
 unit:Bytes
 sum:Bytes
 to_:Bytes
def consEnd (q:Price):M (Price×Bool):=bnd (acc [102,105,110,97,108]) fun f=>ret (q,f)
def priceEnd (r:Ratio) (u c:Bytes):M (Price×Bool):=seq (expect [[116,111]]) (bnd name fun x=>consEnd ⟨r,u,c,x⟩)
def cons:M (Price×Bool):=bnd (acc [118,97,108,117,101]) fun v=>if v then bnd (opt 1) fun o=>match o with|some t=>priceEnd ⟨0,0⟩ [] t.text|none=>bnd ratio fun r=>bnd name fun u=>priceEnd r u []
 else consEnd ⟨⟨0,0⟩,[],[],[]⟩
def party:M Flat:=bnd name fun n=>seq (expect [[59]]) (ret {flat0 with kind:=1,name:=n})
def role:M Flat:=bnd name fun n=>seq (expect [[111,102]]) (bnd name fun o=>seq (expect [[59]]) (ret {flat0 with kind:=2,name:=n,of_:=o}))
def unitEnd (n:Bytes) (wd:Nat) (r:Ratio) (u:Bytes):M Flat:=seq (expect [[59]]) (ret {flat0 with kind:=3,name:=n,word:=wd,num:=r,unit:=u})
def unitTail (n:Bytes) (wd:Nat):M Flat:=bnd (acc [61]) fun e=>if e then bnd ratio fun r=>bnd name fun u=>unitEnd n wd r u else unitEnd n wd ⟨0,0⟩ []
def unit:M Flat:=bnd name fun n=>bnd (acc [109,111,110,101,121]) fun m=>if m then unitTail n 2 else seq (expect [[103,111,111,100,115]]) (unitTail n 1)
def weekend:M Flat:=bnd (long fun f=>weekendMore f flat0.days) fun l=>ret {flat0 with kind:=4,days:=l}
def holiday:M Flat:=bnd (long datesMore) fun l=>seq (expect [[59]]) (ret {flat0 with kind:=5,dates:=l})
def spanDef:M Flat:=bnd name fun n=>seq (expect [[61]]) (bnd days fun w=>seq (expect [[59]]) (ret {flat0 with kind:=6,name:=n,within:=w}))
def sumDef:M Flat:=bnd name fun n=>seq (expect [[61]]) (bnd ratio fun r=>bnd name fun u=>seq (expect [[59]]) (ret {flat0 with kind:=7,name:=n,num:=r,unit:=u}))
def nature (o:Bytes):Bytes:=if o= [110,97,116,117,114,101] then [] else o
def actGive (n o:Bytes) (wd:Nat):M Flat:=bnd name fun g=>seq (expect [[116,111]]) (bnd name fun t=>seq (expect [[59]]) (ret {flat0 with kind:=8,name:=n,of_:=nature o,word:=wd,give:=g,to_:=t}))
def actEnd (n o:Bytes) (r:Ratio) (u x:Bytes):M Flat:=seq (expect [[59]]) (ret {flat0 with kind:=8,name:=n,of_:=nature o,word:=1,num:=r,unit:=u,to_:=x})
def actTo (n o:Bytes) (r:Ratio) (u:Bytes):M Flat:=bnd (acc [116,111]) fun t=>if t then bnd name fun x=>actEnd n o r u x else actEnd n o r u []
def act:M Flat:=bnd name fun n=>seq (expect [[98,121]]) (bnd name fun o=>bnd (acc [97,115,115,105,103,110,115]) fun a=>if a then actGive n o 2 else bnd (acc [110,111,118,97,116,101,115]) fun v=>if v then actGive n o 3
 else bnd (acc [109,111,118,101,115]) fun m=>if m then bnd ratio fun r=>bnd name fun u=>actTo n o r u else actTo n o ⟨0,0⟩ [])
def dutyEnd (n:Bytes) (oa:Bytes×Bytes) (times:Nat) (w gr:Span):M Flat:=bnd circ fun c=>bnd cons fun q=>seq (expect [[59]])
  (ret {flat0 with kind:=9,name:=n,of_:=oa.1,act:=oa.2,times:=times,within:=w,grace:=gr,conds:=c.1,by_:=c.2.1,til:=c.2.2,num:=q.1.num,unit:=q.1.unit,sum:=q.1.sum,to_:=q.1.to_,fin:=q.2})
def dutyTail (n:Bytes) (oa:Bytes×Bytes) (times:Nat):M Flat:=seq (expect [[119,105,116,104,105,110]]) (bnd span fun w=>bnd (acc [103,114,97,99,101]) fun g=>if g then bnd span fun gr=>dutyEnd n oa times w gr else dutyEnd n oa times w ⟨0,false,[]⟩)
def duty:M Flat:=bnd name fun n=>bnd bearer fun oa=>bnd (opt 2) fun t=>match t with|some t=>seq (expect [[116,105,109,101,115]]) (dutyTail n oa t.n)|none=>dutyTail n oa 1
def ban:M Flat:=bnd name fun n=>bnd bearer fun oa=>seq (expect [[102,111,114]]) (bnd span fun w=>bnd circ fun c=>bnd cons fun q=>seq (expect [[59]])
  (ret {flat0 with kind:=10,name:=n,of_:=oa.1,act:=oa.2,within:=w,conds:=c.1,by_:=c.2.1,til:=c.2.2,num:=q.1.num,unit:=q.1.unit,sum:=q.1.sum,to_:=q.1.to_,fin:=q.2}))
def option:M Flat:=bnd name fun n=>bnd bearer fun oa=>seq (expect [[119,105,116,104,105,110]]) (bnd span fun w=>bnd circ fun c=>seq (expect [[59]])
  (ret {flat0 with kind:=11,name:=n,of_:=oa.1,act:=oa.2,within:=w,conds:=c.1,by_:=c.2.1,til:=c.2.2}))
def watch:M Flat:=bnd name fun n=>seq (expect [[58]]) (bnd name fun a=>seq (expect [[119,105,116,104,105,110]]) (bnd span fun w=>bnd circ fun c=>seq (expect [[59]])
  (ret {flat0 with kind:=12,name:=n,act:=a,within:=w,conds:=c.1,by_:=c.2.1,til:=c.2.2})))
def incl:M Flat:=bnd name fun o=>seq (expect [[97,115]]) (bnd name fun n=>bnd names fun l=>seq (expect [[59]]) (ret {flat0 with kind:=14,name:=n,of_:=o,names:=l}))
def innerWords:List (Bytes×Nat):= [([100,117,116,121],9),([98,97,110],10),([111,112,116,105,111,110],11),([119,97,116,99,104],12),([105,110,99,108,117,100,101],14)]
def allWords:List (Bytes×Nat):=innerWords++ [([112,97,114,116,121],1),([114,111,108,101],2),([117,110,105,116],3),([119,101,101,107,101,110,100],4),([104,111,108,105,100,97,121],5),([115,112,97,110],6),([115,117,109],7),([97,99,116],8),([116,101,109,112,108,97,116,101],13)]
def body (k:Nat):M Flat:=match k with
 |1=>party|2=>role|3=>unit|4=>weekend|5=>holiday|6=>spanDef|7=>sumDef|8=>act|9=>duty|10=>ban|11=>option|12=>watch|_=>incl
def start (ws:List (Bytes×Nat)):M (Option (Nat×Nat)):=fun s=>
 if isK 1 s then match s.rest with
  | []=>(none,s)
  |t::r=>match ws.lookup t.text with
   |none=>(none,(fail s).2)
   |some k=>if s.items=600 then (none,{s with err:=3}) else (some (k,t.pos),{rest:=r,items:=s.items+1,err:=0})
 else (none,(fail s).2)
def inner:M Flat:=bnd (start innerWords) fun o=>match o with|none=>ret flat0|some kp=>bnd (body kp.1) fun f=>ret {f with pos:=kp.2}
def tmplMore:Nat→M (List Flat)
 |0=>ret []
 |f+1=>bnd good fun g=>if g then bnd (acc [125]) fun b=>if b then ret [] else bnd inner fun x=>bnd (tmplMore f) fun l=>ret (x::l) else ret []
def template:M Item:=bnd name fun n=>bnd names fun l=>seq (expect [[123]]) (bnd (long tmplMore) fun xs=>ret ⟨{flat0 with kind:=13,name:=n,names:=l},xs⟩)
def item:M Item:=bnd (start allWords) fun o=>match o with
 |none=>ret ⟨flat0,[]⟩
 |some kp=>if kp.1=13 then bnd template fun x=>ret ⟨{x.flat with pos:=kp.2},x.inner⟩ else bnd (body kp.1) fun f=>ret ⟨{f with pos:=kp.2},[]⟩
def more:M Bool:=fun s=>(s.err==0&&!s.rest.isEmpty,s)
def itemsMore:Nat→M (List Item)
 |0=>ret []
 |f+1=>bnd more fun g=>if g then bnd item fun x=>bnd (itemsMore f) fun l=>ret (x::l) else ret []
def header:M Source:=seq (expect [[99,111,110,116,114,97,99,116]]) (bnd name fun n=>seq (expect [[102,114,111,109]]) (bnd date fun d=>seq (expect [[102,111,114]]) (bnd number fun k=>seq (expect [[100,97,121,115],[59]]) (ret ⟨n,d,k,[]⟩))))
def source:M Source:=bnd header fun h=>bnd (long itemsMore) fun l=>ret {h with items:=l}
def atOf (size:Nat) (s:St):Nat:=if s.err=0 then 0 else if s.err=7 then size else match s.rest with| []=>0|t::_=>t.pos
def parse (text:Bytes):Except (Nat×Int) Source:=
 match Lx.lex text with
 | .error e=> .error e
 | .ok ts=>if (source ⟨ts,0,0⟩).2.err=0 then .ok (source ⟨ts,0,0⟩).1 else .error ((source ⟨ts,0,0⟩).2.err,(atOf text.length (source ⟨ts,0,0⟩).2:Nat))
end Go.Proofs.YtfaflipphkoiiaaDoor.Pr
