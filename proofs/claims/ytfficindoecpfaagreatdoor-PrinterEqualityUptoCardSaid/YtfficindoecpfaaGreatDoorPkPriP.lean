/-
  The printer in plain words: the tokens of each item, and what of an item is left behind its writer. No condition. The printer's text: its gaps; the text of two trees' items. Plain laws. The law of the gaps, about the plain printer's text.
-/
import Derived.Test.YtfficindoecpfaaGreatDoorIncPlain
import Derived.Test.YtfficindoecpfaaGreatDoorLexPlain
import Derived.Lib.ItoaNum
import Derived.Lib.IndexMore
set_option linter.unusedVariables false
set_option linter.unusedSimpArgs false
namespace Go.Proofs.YtfficindoecpfaaGreatDoor.Pt
open Rs Ic
def isName (x:Bytes):Bool:=(match x with| []=>false|c::_=>Lx.isLetter c)&&decide (x.length≤24)&&decide (Lx.nameLen x=x.length)
def dec (n:Int):Bytes:=Lib.itoa n
abbrev T:=Option (List Bytes)
def ok (l:List Bytes):T:=some l
def name (x:Bytes):T:=if isName x then some [x] else none
def number (n:Int):T:=if 0≤n∧n≤999999999999 then some [dec n] else none
def cat (a b:T):T:=match a with|none=>none|some x=>match b with|none=>none|some y=>some (x++y)
def date (c:Civil):T:=cat (number c.y) (cat (ok [[45]]) (cat (number c.m) (cat (ok [[45]]) (number c.d))))
def amount (r:Ratio) (u:Bytes):T:=cat (number r.num) (cat ((if r.den=1 then ok [] else cat (ok [[47]]) (number r.den))) (name u))
def daysT (s:Span):T:=cat (number s.days) (cat ((if s.bus then ok [[98,117,115,105,110,101,115,115]] else ok [])) (ok [[100,97,121,115]]))
def span (s:Span):T:=if s.name= [] then daysT s else name s.name
def commas {α:Type} (f:α→T) (first:Bool):List α→T
 | []=>ok []
 |x::l=>cat ((if first then ok [] else ok [[44]])) (cat (f x) (commas f false l))
def namesT (l:List Bytes):T:=cat (ok [[40]]) (cat (commas name true l) (ok [[41]]))
def bearer (h:Rs.Item):T:=cat (ok [[111,102]]) (cat (name h.of_) (cat (ok [[58]]) (name h.act)))
def statusT (i:Int):Bytes:=if i=1 then [115,116,97,114,116,101,100] else if i=2 then [100,111,110,101] else if i=3 then [102,97,105,108,101,100] else [118,111,105,100]
def cond (first:Bool) (c:Named):T:=if 1≤c.is_∧c.is_≤4 then cat (ok [if first then [105,102] else [97,110,100]]) (cat (name c.name) (ok [statusT c.is_])) else none
def conds (first:Bool):List Named→T
 | []=>ok []
 |c::l=>cat (cond first c) (conds false l)
def circ (h:Rs.Item):T:=cat (conds true h.conds) ((if h.by_= []∧h.til= [] then ok [] else cat (ok [[112,97,117,115,101,100],[98,121]]) (cat (name h.by_) (cat (ok [[117,110,116,105,108]]) (name h.til)))))
def cons (h:Rs.Item):T:=cat ((if h.sum= []∧h.unit= [] then ok [] else cat (ok [[118,97,108,117,101]]) (cat ((if h.sum= [] then amount h.num h.unit else name h.sum)) (cat (ok [[116,111]]) (name h.to_))))) ((if h.fin then ok [[102,105,110,97,108]] else ok []))
def weekNames:List Bytes:= [[109,111,110],[116,117,101],[119,101,100],[116,104,117],[102,114,105],[115,97,116],[115,117,110]]
def weekDays (l:List Bool):List Nat:=(List.range 7).filter fun i=>l.getD i false
def weekT (l:List Bool):T:=if weekDays l= [] then none else commas (fun i=>ok [weekNames.getD i []]) true (weekDays l)
def semi:T:=ok [[59]]
instance:DecidableEq Rs.Span:=fun a b=>decidable_of_iff (a.days=b.days∧a.bus=b.bus∧a.name=b.name) (by cases a;cases b;simp)
instance:DecidableEq Rs.Ratio:=fun a b=>decidable_of_iff (a.num=b.num∧a.den=b.den) (by cases a;cases b;simp)
def span0:Span:=⟨0,false,[]⟩
def daysLeft (s:Span):Span:= {s with days:=0,bus:=false}
def spanLeft (s:Span):Span:=if s.name= [] then daysLeft s else {s with name:= []}
def amountLeft (h:Rs.Item):Rs.Item:= {h with num:=⟨0,0⟩,unit:= []}
def circLeft (h:Rs.Item):Rs.Item:=if h.by_= []∧h.til= [] then {h with conds:= []} else {h with conds:= [],by_:= [],til:= []}
def consLeft (h:Rs.Item):Rs.Item:=if h.sum= []∧h.unit= [] then {h with fin:=false} else if h.sum= [] then {h with num:=⟨0,0⟩,unit:= [],to_:= [],fin:=false} else {h with sum:= [],to_:= [],fin:=false}
def begin_ (w:Bytes) (h:Rs.Item):T:=cat (ok [w]) (name h.name)
def party (h:Rs.Item):T:=cat (begin_ [112,97,114,116,121] h) (semi)
def role (h:Rs.Item):T:=cat (begin_ [114,111,108,101] h) (cat (ok [[111,102]]) (cat (name h.of_) (semi)))
def unitWord (k:Int):T:=if k=1 then ok [[103,111,111,100,115]] else if k=2 then ok [[109,111,110,101,121]] else none
def unit (h:Rs.Item):T:=cat (begin_ [117,110,105,116] h) (cat (unitWord h.word) (cat ((if h.unit= [] then ok [] else cat (ok [[61]]) (amount h.num h.unit))) (semi)))
def weekend (h:Rs.Item):T:=cat (ok [[119,101,101,107,101,110,100]]) (cat (weekT h.days) (semi))
def holiday (h:Rs.Item):T:=if h.dates= [] then none else cat (ok [[104,111,108,105,100,97,121]]) (cat (commas date true h.dates) (semi))
def spanDef (h:Rs.Item):T:=cat (begin_ [115,112,97,110] h) (cat (ok [[61]]) (cat (daysT h.within) (semi)))
def sumDef (h:Rs.Item):T:=cat (begin_ [115,117,109] h) (cat (ok [[61]]) (cat (amount h.num h.unit) (semi)))
def natureT:Bytes:= [110,97,116,117,114,101]
def actOf (o:Bytes):T:=if o=natureT then none else if o= [] then ok [natureT] else name o
def actWord (h:Rs.Item):T:=if h.word=2∨h.word=3 then cat (ok [if h.word=2 then [97,115,115,105,103,110,115] else [110,111,118,97,116,101,115]]) (cat (name h.give) (cat (ok [[116,111]]) (name h.to_)))
 else if h.word=1 then cat ((if h.unit= [] then ok [] else cat (ok [[109,111,118,101,115]]) (amount h.num h.unit))) ((if h.to_= [] then ok [] else cat (ok [[116,111]]) (name h.to_))) else none
def act (h:Rs.Item):T:=cat (begin_ [97,99,116] h) (cat (ok [[98,121]]) (cat (actOf h.of_) (cat (actWord h) (semi))))
def times (n:Int):T:=if n=1 then ok [] else cat (number n) (ok [[116,105,109,101,115]])
def grace (s:Span):T:=if s=span0 then ok [] else cat (ok [[103,114,97,99,101]]) (span s)
def duty (h:Rs.Item):T:=cat (begin_ [100,117,116,121] h) (cat (bearer h) (cat (times h.times) (cat (ok [[119,105,116,104,105,110]]) (cat (span h.within) (cat (grace h.grace) (cat (circ h) (cat (cons h) (semi))))))))
def ban (h:Rs.Item):T:=cat (begin_ [98,97,110] h) (cat (bearer h) (cat (ok [[102,111,114]]) (cat (span h.within) (cat (circ h) (cat (cons h) (semi))))))
def option (h:Rs.Item):T:=cat (begin_ [111,112,116,105,111,110] h) (cat (bearer h) (cat (ok [[119,105,116,104,105,110]]) (cat (span h.within) (cat (circ h) (semi)))))
def watch (h:Rs.Item):T:=cat (begin_ [119,97,116,99,104] h) (cat (ok [[58]]) (cat (name h.act) (cat (ok [[119,105,116,104,105,110]]) (cat (span h.within) (cat (circ h) (semi))))))
def incl (h:Rs.Item):T:=cat (ok [[105,110,99,108,117,100,101]]) (cat (name h.of_) (cat (ok [[97,115]]) (cat (name h.name) (cat (namesT h.names) (semi)))))
def head (h:Rs.Item):T:=cat (begin_ [116,101,109,112,108,97,116,101] h) (cat (namesT h.names) (ok [[123]]))
def flatT (h:Rs.Item):T:=
 if h.kind=1 then party h else if h.kind=2 then role h else if h.kind=3 then unit h else if h.kind=4 then weekend h else if h.kind=5 then holiday h else if h.kind=6 then spanDef h else if h.kind=7 then sumDef h
 else if h.kind=8 then act h else if h.kind=9 then duty h else if h.kind=10 then ban h else if h.kind=11 then option h else if h.kind=12 then watch h else if h.kind=14 then incl h else none
def week0:List Bool:= [false,false,false,false,false,false,false]
def left (h:Rs.Item):Rs.Item:=
 if h.kind=1 then {h with name:= []}
 else if h.kind=2 then {h with name:= [],of_:= []}
 else if h.kind=3 then (if h.unit= [] then {h with name:= [],word:=0} else {amountLeft h with name:= [],word:=0})
 else if h.kind=4 then {h with days:=week0}
 else if h.kind=5 then {h with dates:= []}
 else if h.kind=6 then {h with name:= [],within:=daysLeft h.within}
 else if h.kind=7 then {amountLeft h with name:= []}
 else if h.kind=8 then (if h.word=1 then (if h.unit= [] then {h with name:= [],of_:= [],to_:= [],word:=0} else {amountLeft h with name:= [],of_:= [],to_:= [],word:=0}) else {h with name:= [],of_:= [],give:= [],to_:= [],word:=0})
 else if h.kind=9 then consLeft (circLeft {h with name:= [],of_:= [],act:= [],times:=0,within:=spanLeft h.within,grace:=if h.grace=span0 then h.grace else spanLeft h.grace})
 else if h.kind=10 then consLeft (circLeft {h with name:= [],of_:= [],act:= [],within:=spanLeft h.within})
 else if h.kind=11 then circLeft {h with name:= [],of_:= [],act:= [],within:=spanLeft h.within}
 else if h.kind=12 then circLeft {h with name:= [],act:= [],within:=spanLeft h.within}
 else if h.kind=13 then {h with name:= [],names:= []}
 else {h with of_:= [],name:= [],names:= []}
def blank (h:Rs.Item):Prop:=h.name= []∧h.of_= []∧h.act= []∧h.word=0∧h.times=0∧h.within=span0∧h.grace=span0∧h.conds= []∧h.by_= []∧h.til= []∧h.num=⟨0,0⟩∧h.unit= []∧h.sum= []∧h.fin=false∧h.give= []∧h.to_= []∧h.days=week0∧h.dates= []∧h.names= []
instance (h:Rs.Item):Decidable (blank h):=by unfold blank;exact inferInstance
abbrev Line:=Bool×List Bytes
def flatL (ind:Bool) (t:Tree):Option (List Line):=match flatT t.h with
 |none=>none
 |some l=>if blank (left t.h)∧t.l= [] then some [(ind,l)] else none
def isInner (k:Int):Bool:=decide (k=9)||decide (k=10)||decide (k=11)||decide (k=12)||decide (k=14)
def innerL (t:Tree):Option (List Line):=if isInner t.h.kind then flatL true t else none
def catL (a b:Option (List Line)):Option (List Line):=match a with|none=>none|some x=>match b with|none=>none|some y=>some (x++y)
def each (f:Tree→Option (List Line)):List Tree→Option (List Line)
 | []=>some []
 |x::l=>catL (f x) (each f l)
def itemL (t:Tree):Option (List Line):=if t.h.kind=13 then (match head t.h with
  |none=>none
  |some l=>match each innerL t.l with
   |none=>none
   |some ls=>if blank (left t.h) then some ([(false,l)]++ls++ [(false,[[125]])]) else none)
 else flatL false t
def firstT (s:Src):T:=cat (ok [[99,111,110,116,114,97,99,116]]) (cat (name s.name) (cat (ok [[102,114,111,109]]) (cat (date s.frm) (cat (ok [[102,111,114]]) (cat (number s.days) (ok [[100,97,121,115],[59]]))))))
def srcL (s:Src):Option (List Line):=match firstT s with|none=>none|some l=>catL (some [(false,l)]) (each itemL s.items)
def joined (last x:Bytes):Bool:=last.isEmpty||Lib.contains [59,58,44,40,41,47,45] x||Lib.contains [40,47,45] last
def sepOf (last x:Bytes):Bytes:=if joined last x then [] else [32]
def lineText:Bytes→List Bytes→Bytes
 |_,[]=> []
 |last,x::l=>sepOf last x++x++lineText x l
def oneLine (l:Line):Bytes:=(if l.1 then [32,32] else [])++lineText [] l.2++ [10]
def textOf (ls:List Line):Bytes:=ls.flatMap oneLine
def toksOf (ls:List Line):Nat:=(ls.map fun l=>l.2.length).sum
def print (s:Src):Except Int Bytes:=match srcL s with
 |none=> .error 1
 |some ls=>if 600<sizes s.items∨5000<toksOf ls∨20000<(textOf ls).length then .error 3 else .ok (textOf ls)
end Go.Proofs.YtfficindoecpfaaGreatDoor.Pt
namespace Go.Proofs.YtfficindoecpfaaGreatDoor.Pt
open Rs Ic
def plainB (c:UInt8):Prop:=c≠9∧c≠35∧c≠10∧c≠32
instance (c:UInt8):Decidable (plainB c):=by unfold plainB;exact inferInstance
def TokB (x:Bytes):Prop:=x≠ []∧ ∀c∈x,plainB c
def One (x:Bytes):Prop:=isName x=true∨(∃n:Nat,n≤999999999999∧x=Lib.decDigits n)∨ ∃c,x= [c]∧Lx.isSym c=true
def okT (t:T):Prop:= ∀l,t=some l→ ∀x∈l,One x
theorem okT_ok {l:List Bytes} (h: ∀x∈l,One x):okT (ok l):=fun m e=>by injection e with e;subst e;exact h
theorem okT_none:okT none:=fun m e=>by cases e
theorem jq4 {a b:T} {l:List Bytes} (h:(cat (a) (b))=some l): ∃x y,a=some x∧b=some y∧l=x++y:=by
 unfold cat at h
 split at h
 ·cases h
 ·split at h
  ·cases h
  ·injection h with h
   exact ⟨_,_,rfl,rfl,h.symm⟩
theorem jv5 {a b:T} (ha:okT a) (hb:okT b):okT (cat (a) (b)):=fun l h z hz=>by
 obtain ⟨x,y,h1,h2,rfl⟩:=jq4 h
 rcases List.mem_append.1 hz with hz|hz
 ·exact ha x h1 z hz
 ·exact hb y h2 z hz
theorem kx4 {c:Prop} [Decidable c] {a b:T} (ha:okT a) (hb:okT b):okT (if c then a else b):=by split<;>assumption
theorem word_plain {c:UInt8} (h:Lx.isWord c=true):plainB c:=by
 unfold Lx.isWord Lx.isLetter Lx.isDigit at h
 refine ⟨?_,?_,?_,?_⟩<;>(rintro rfl;revert h;decide)
theorem nameByte_plain {c:UInt8} {l:Bytes} (h:Lx.nameByte (c::l)=true):plainB c:=by
 unfold Lx.nameByte at h
 rw [Bool.or_eq_true] at h
 rcases h with h|h
 ·exact word_plain h
 ·rw [Bool.and_eq_true] at h
  have h2:c.toNat=46:=by simpa using h.1
  refine ⟨?_,?_,?_,?_⟩<;>(rintro rfl;revert h2;decide)
theorem isName_tok {x:Bytes} (h:isName x=true):TokB x:=by
 unfold isName at h
 simp only [Bool.and_eq_true,decide_eq_true_eq] at h
 obtain ⟨⟨h1,h2⟩,h3⟩:=h
 refine ⟨fun e=>by subst e;simp at h1,fun c hc=>?_⟩
 obtain ⟨i,hi,rfl⟩:=List.mem_iff_getElem.1 hc
 have h4:=Lx.nameLen_yes x i (by omega)
 rw [List.drop_eq_getElem_cons hi] at h4
 exact nameByte_plain h4
theorem digit_plain (n:Nat) (h:n<10):plainB (UInt8.ofNat (48+n)):=by
 have: ∀n:Fin 10,plainB (UInt8.ofNat (48+n.val)):=by decide
 exact this ⟨n,h⟩
theorem decDigits_tok (n:Nat):TokB (Lib.decDigits n):=by
 induction n using Nat.strongRecOn with
 |ind n ih=>
  rw [Lib.decDigits]
  split
  ·next h=>exact ⟨by simp,fun c hc=>by rw [List.mem_singleton.1 hc];exact digit_plain n h⟩
  ·next h=>
   have h1:=ih (n/10) (by omega)
   refine ⟨by simp,fun c hc=>?_⟩
   rcases List.mem_append.1 hc with hc|hc
   ·exact h1.2 c hc
   ·rw [List.mem_singleton.1 hc];exact digit_plain _ (Nat.mod_lt n (by decide:0<10))
theorem sym_cases {c:UInt8} (h:Lx.isSym c=true):c∈Lx.syms:=by unfold Lx.isSym at h;simpa using h
theorem One.tokB {x:Bytes} (h:One x):TokB x:=by
 rcases h with h|⟨n,hn,rfl⟩|⟨c,rfl,hc⟩
 ·exact isName_tok h
 ·exact decDigits_tok n
 ·have h2: ∀c∈Lx.syms,plainB c:=by decide
  exact ⟨by simp,fun d hd=>by rw [List.mem_singleton.1 hd];exact h2 c (sym_cases hc)⟩
theorem dec_nat {n:Int} (h:0≤n):dec n=Lib.decDigits n.toNat:=by unfold dec Lib.itoa;rw [if_neg (by omega)]
theorem jk4 (x:Bytes):okT (name x):=by
 unfold name
 split
 ·next h=>exact okT_ok (fun y hy=>by simp at hy;subst hy;exact .inl h)
 ·exact okT_none
theorem kz0 (n:Int):okT (number n):=by
 unfold number
 split
 ·next h=>exact okT_ok (fun y hy=>by
   simp at hy;subst hy;exact .inr (.inl ⟨n.toNat,by omega,dec_nat h.1⟩))
 ·exact okT_none
def word1 (x:Bytes):Bool:=isName x||match x with| [c]=>Lx.isSym c|_=>false
theorem jz3 {l:List Bytes} (h:l.all word1=true):okT (ok l):=okT_ok fun y hy=>by
 have h:=List.all_eq_true.1 h y hy
 unfold word1 at h
 rw [Bool.or_eq_true] at h
 rcases h with h|h
 ·exact .inl h
 ·match y,h with
  | [c],h=>exact .inr (.inr ⟨c,rfl,h⟩)
theorem okT_commas {α:Type} {f:α→T} (hf: ∀x,okT (f x)): ∀(b:Bool) (l:List α),okT (commas f b l)
 |_,[]=>jz3 rfl
 |b,x::l=>jv5 (kx4 (jz3 rfl) (jz3 (by decide))) (jv5 (hf x) (okT_commas hf false l))
theorem okT_conds: ∀(b:Bool) (l:List Named),okT (conds b l)
 |_,[]=>jz3 rfl
 |b,c::l=>by
  refine jv5 ?_ (okT_conds false l)
  unfold cond
  refine kx4 (jv5 (by cases b<;>exact jz3 (by decide)) (jv5 (jk4 _) ?_)) okT_none
  unfold statusT
  repeat' split
  all_goals exact jz3 (by decide)
theorem okT_date (c:Civil):okT (date c):=by
 unfold date
 repeat' (first|exact kz0 _|exact jz3 (by decide)|refine jv5 ?_ ?_)
theorem okT_amount (r:Ratio) (u:Bytes):okT (amount r u):=by
 unfold amount
 repeat' (first|exact kz0 _|exact jk4 _|exact jz3 (by decide)|refine jv5 ?_ ?_|refine kx4 ?_ ?_)
theorem okT_days (s:Span):okT (daysT s):=by
 unfold daysT
 repeat' (first|exact kz0 _|exact jz3 (by decide)|refine jv5 ?_ ?_|refine kx4 ?_ ?_)
theorem okT_span (s:Span):okT (span s):=kx4 (okT_days s) (jk4 _)
theorem okT_namesT (l:List Bytes):okT (namesT l):=jv5 (jz3 (by decide)) (jv5 (okT_commas jk4 _ _) (jz3 (by decide)))
theorem okT_bearer (h:Rs.Item):okT (bearer h):=by
 unfold bearer
 repeat' (first|exact jk4 _|exact jz3 (by decide)|refine jv5 ?_ ?_)
theorem okT_circ (h:Rs.Item):okT (circ h):=by
 unfold circ
 repeat' (first|exact okT_conds _ _|exact jk4 _|exact jz3 (by decide)|refine jv5 ?_ ?_|refine kx4 ?_ ?_)
theorem okT_cons (h:Rs.Item):okT (cons h):=by
 unfold cons
 repeat' (first|exact okT_amount _ _|exact jk4 _|exact jz3 (by decide)|refine jv5 ?_ ?_|refine kx4 ?_ ?_)
theorem okT_week (l:List Bool):okT (weekT l):=by
 unfold weekT
 refine kx4 okT_none ?_
 have h: ∀m:List Nat,(∀i∈m,i<7)→ ∀b,okT (commas (fun i=>ok [weekNames.getD i []]) b m):=by
  intro m
  induction m with
  |nil=>intro _ _;exact jz3 rfl
  |cons i m ih=>
   intro hm b
   refine jv5 (kx4 (jz3 rfl) (jz3 (by decide))) (jv5 ?_ (ih (fun k hk=>hm k (List.mem_cons_of_mem _ hk)) false))
   have h2: ∀i:Fin 7,[weekNames.getD i.val []].all word1=true:=by decide
   exact jz3 (h2 ⟨i,hm i (List.mem_cons_self ..)⟩)
 exact h _ (fun i hi=>by
  unfold weekDays at hi
  have:=(List.mem_filter.1 hi).1
  exact List.mem_range.1 this) true
theorem okT_flat (h:Rs.Item):okT (flatT h):=by
 unfold flatT party role unit weekend holiday spanDef sumDef act duty ban option watch incl begin_ unitWord actOf actWord times grace semi
 repeat' (first|exact okT_none|exact okT_amount _ _|exact jk4 _|exact kz0 _|exact okT_span _|exact okT_days _|exact okT_namesT _|exact okT_bearer _|exact okT_circ _|exact okT_cons _|exact okT_week _|exact okT_commas okT_date _ _|exact jz3 (by decide)|refine jv5 ?_ ?_|refine kx4 ?_ ?_)
 all_goals (split<;>exact jz3 (by decide))
theorem okT_head (h:Rs.Item):okT (head h):=jv5 (jv5 (jz3 (by decide)) (jk4 _)) (jv5 (okT_namesT _) (jz3 (by decide)))
theorem okT_first (s:Src):okT (firstT s):=by
 unfold firstT
 repeat' (first|exact okT_date _|exact jk4 _|exact kz0 _|exact jz3 (by decide)|refine jv5 ?_ ?_)
def LineOk (l:Line):Prop:=l.2≠ []∧ ∀x∈l.2,One x
theorem cat_ne {a b:T} {l:List Bytes} (h:(cat (a) (b))=some l) (ha: ∀x,a=some x→x≠ []):l≠ []:=by
 obtain ⟨x,y,h1,h2,rfl⟩:=jq4 h
 intro e
 exact ha x h1 (List.append_eq_nil_iff.1 e).1
theorem begin_ne {w:Bytes} {h:Rs.Item} {x:List Bytes} (e:begin_ w h=some x):x≠ []:=cat_ne e (fun y e=>by injection e with e;subst e;simp)
theorem holiday_ne {h:Rs.Item} {l:List Bytes} (e:holiday h=some l):l≠ []:=by
 unfold holiday at e
 split at e
 ·cases e
 ·exact cat_ne e (fun y e=>by injection e with e;subst e;simp)
def Ne1 (t:T):Prop:= ∀l,t=some l→l≠ []
theorem jk1 {c:Prop} [Decidable c] {a b:T} (ha:Ne1 a) (hb:Ne1 b):Ne1 (if c then a else b):=by split<;>assumption
theorem jj4 {w:Bytes} {h:Rs.Item} {t:T}:Ne1 (cat (begin_ w h) (t)):=fun _ e=>cat_ne e (fun _ h=>begin_ne h)
theorem word_ne1 {w:Bytes} {t:T}:Ne1 (cat (ok [w]) (t)):=fun _ e=>cat_ne e (fun _ e=>by injection e with e;subst e;simp)
theorem flat_ne {h:Rs.Item} {l:List Bytes} (e:flatT h=some l):l≠ []:=by
 have key:Ne1 (flatT h):=by
  unfold flatT
  refine jk1 jj4 (jk1 jj4 (jk1 jj4 (jk1 word_ne1 (jk1 (fun _ e=>holiday_ne e) (jk1 jj4 (jk1 jj4 (jk1 jj4 (jk1 jj4 (jk1 jj4 (jk1 jj4 (jk1 jj4 (jk1 word_ne1 (fun _ e=>by cases e)))))))))))))
 exact key l e
theorem flatL_ok {b:Bool} {t:Tree} {ls:List Line} (h:flatL b t=some ls): ∀l∈ls,LineOk l:=by
 unfold flatL at h
 split at h
 ·cases h
 ·next l e=>
  split at h
  ·injection h with h;subst h
   intro x hx;simp at hx;subst hx
   exact ⟨flat_ne e,okT_flat _ _ e⟩
  ·cases h
theorem kz1 {a b:Option (List Line)} {l:List Line} (h:catL a b=some l): ∃x y,a=some x∧b=some y∧l=x++y:=by
 unfold catL at h
 split at h
 ·cases h
 ·split at h
  ·cases h
  ·injection h with h
   exact ⟨_,_,rfl,rfl,h.symm⟩
theorem each_ok {f:Tree→Option (List Line)} (hf: ∀t ls,f t=some ls→ ∀l∈ls,LineOk l): ∀(l:List Tree) (ls:List Line),each f l=some ls→ ∀x∈ls,LineOk x
 | [],ls,h,x,hx=>by injection h with h;subst h;exact absurd hx List.not_mem_nil
 |t::l,ls,h,x,hx=>by
  obtain ⟨a,b,h1,h2,rfl⟩:=kz1 h
  rcases List.mem_append.1 hx with hx|hx
  ·exact hf t a h1 x hx
  ·exact each_ok hf l b h2 x hx
theorem innerL_ok {t:Tree} {ls:List Line} (h:innerL t=some ls): ∀l∈ls,LineOk l:=by
 unfold innerL at h
 split at h
 ·exact flatL_ok h
 ·cases h
theorem itemL_ok {t:Tree} {ls:List Line} (h:itemL t=some ls): ∀l∈ls,LineOk l:=by
 unfold itemL at h
 split at h
 ·split at h
  ·cases h
  ·next l e=>
   split at h
   ·cases h
   ·next ms e2=>
    split at h
    ·injection h with h;subst h
     intro x hx
     simp only [List.append_assoc,List.cons_append,List.nil_append,List.mem_cons,List.mem_append,List.not_mem_nil,or_false] at hx
     rcases hx with rfl|hx|rfl
     ·exact ⟨cat_ne e (fun _ h=>begin_ne h),okT_head _ _ e⟩
     ·exact each_ok (fun t ls h=>innerL_ok h) _ _ e2 x hx
     ·refine ⟨by simp,fun y hy=>?_⟩
      simp at hy;subst hy
      exact .inr (.inr ⟨125,rfl,by decide⟩)
    ·cases h
 ·exact flatL_ok h
theorem srcL_ok {s:Src} {ls:List Line} (h:srcL s=some ls): ∀l∈ls,LineOk l:=by
 unfold srcL at h
 split at h
 ·cases h
 ·next l e=>
  obtain ⟨a,b,h1,h2,rfl⟩:=kz1 h
  injection h1 with h1;subst h1
  intro x hx
  rcases List.mem_append.1 hx with hx|hx
  ·simp at hx;subst hx
   exact ⟨cat_ne e (fun y e=>by injection e with e;subst e;simp),okT_first _ _ e⟩
  ·exact each_ok (fun t ls h=>itemL_ok h) _ _ h2 x hx
end Go.Proofs.YtfficindoecpfaaGreatDoor.Pt
namespace Go.Proofs.YtfficindoecpfaaGreatDoor.Pt
open Rs Ic
theorem print_some {s:Src} {F:Bytes} (h:print s= .ok F): ∃ls,srcL s=some ls∧F=textOf ls∧sizes s.items≤600∧toksOf ls≤5000∧F.length≤20000:=by
 unfold print at h
 cases hs:srcL s with
 |none=>rw [hs] at h;cases h
 |some ls=>
  rw [hs] at h
  have h:(if 600<sizes s.items∨5000<toksOf ls∨20000<(textOf ls).length then (Except.error 3:Except Int Bytes) else .ok (textOf ls))= .ok F:=h
  by_cases hb:600<sizes s.items∨5000<toksOf ls∨20000<(textOf ls).length
  ·rw [if_pos hb] at h;cases h
  ·rw [if_neg hb] at h
   injection h with h
   subst h
   exact ⟨ls,rfl,rfl,by omega,by omega,by omega⟩
end Go.Proofs.YtfficindoecpfaaGreatDoor.Pt
