/-
  Trees that the parser returned, as the printer reads them: plain. No condition.
-/
import Derived.Test.YtfficindoecpfaaGreatDoorIncPlain
import Derived.Test.YtfficindoecpfaaGreatDoorParPlain
namespace Go.Proofs.YtfficindoecpfaaGreatDoor.Pt
def rsp (s:Pr.Span):Rs.Span:=⟨s.days,s.bus,s.name⟩
def rsc (c:Pr.Civil):Rs.Civil:=⟨c.y,c.m,c.d⟩
def rsn (c:Pr.Named):Rs.Named:=⟨c.name,c.is_⟩
def rsi (f:Pr.Flat):Rs.Item:=
 {kind:=f.kind,name:=f.name,pos:=f.pos,of_:=f.of_,act:=f.act,word:=f.word,times:=f.times,within:=rsp f.within,grace:=rsp f.grace,conds:=f.conds.map rsn,by_:=f.by_,til:=f.til,num:=⟨f.num.num,f.num.den⟩,unit:=f.unit,sum:=f.sum,fin:=f.fin,give:=f.give,to_:=f.to_,days:=f.days,dates:=f.dates.map rsc,names:=f.names}
def rsf (f:Pr.Flat):Ic.Tree:= .node (rsi f) []
def rst (x:Pr.Item):Ic.Tree:= .node (rsi x.flat) (x.inner.map rsf)
def rss (s:Pr.Source):Ic.Src:=⟨s.name,rsc s.frm,s.days,s.items.map rst⟩
end Go.Proofs.YtfficindoecpfaaGreatDoor.Pt
