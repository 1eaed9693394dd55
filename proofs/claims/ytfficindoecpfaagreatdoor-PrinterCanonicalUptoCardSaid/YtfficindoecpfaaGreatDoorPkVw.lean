/-
  Rows of elements in memory, as they are read; slices of any elements that came in as arguments, opened. Arguments that are items and sources, opened (printed by genopen.py). Lists of items and sources as they are read; arguments that are sources, opened. What the frame says about sizes, brought down to the texts that lie deep in an argument.
-/
import Derived.Test.YtfficindoecpfaaGreatDoorPkMem
import Derived.OpenShut
import Derived.OwnWalk
import Derived.Lib.SmallJoins
import Derived.Test.YtfficindoecpfaaGreatDoorResPlain
import Derived.Test.YtfficindoecpfaaGreatDoorProg
set_option linter.unusedVariables false
set_option linter.unusedSimpArgs false
set_option maxHeartbeats 64000000
set_option maxRecDepth 100000
namespace Go.Proofs.YtfficindoecpfaaGreatDoor.Vw
open Go.ChangeShapes Go.WideShapes Go.RowKit Mem
abbrev Bytes:=List UInt8
def nil:Value:= .slice none 0 0
def At (W:World) (g o:Nat) (cs:List Value):Prop:= ∀j v,cs[j]?=some v→W.cell? ⟨g,o+j,none⟩=some v
theorem At.below {W W':World} {g o:Nat} {cs:List Value} (h:At W g o cs) (hg:g<W.heap.size) (hb:Below W.heap.size W W'):At W' g o cs:=
 fun j v hj=>(hb.cell (p:=⟨g,_,none⟩) hg).trans (h j v hj)
theorem At.cell {W:World} {g o:Nat} {cs:List Value} (h:At W g o cs) (j:Nat) {v:Value} (hv:cs[j]?=some v):W.cell? ⟨g,o+j,none⟩=some v:=h j v hv
theorem At.of_blk {W:World} {g:Nat} {cs:List Value} {t:TypeId} (h:W.heap[g]?=some (.cells cs.toArray t (0,0))):At W g 0 cs:=by
 intro j v hj
 rw [Nat.zero_add,jq0 h]
 simpa using hj
def Row (W:World) (v:Value) (z:Nat) (xs:List (List Value)):Prop:=
 ∃A cap,v= .slice A xs.length cap∧(xs.length≤cap∧cap≤9223372036854775807)∧(xs= []∨ ∃g o,A=some ⟨g,o,none⟩∧g<W.heap.size∧ ∀i x,xs[i]?=some x→At W g (o+i*z) x)
theorem Row.below {W W':World} {v:Value} {z:Nat} {xs:List (List Value)} (h:Row W v z xs) (hb:Below W.heap.size W W'):Row W' v z xs:=by
 obtain ⟨A,cap,rfl,hc,h⟩:=h
 refine ⟨A,cap,rfl,hc,?_⟩
 rcases h with h|⟨g,o,hA,hg,hr⟩
 ·exact .inl h
 ·exact .inr ⟨g,o,hA,Nat.lt_of_lt_of_le hg hb.size,fun i x hx=>(hr i x hx).below hg hb⟩
theorem Row.nil (W:World) (z:Nat):Row W Vw.nil z []:=⟨none,0,rfl,⟨Nat.le_refl _,by decide⟩,.inl rfl⟩
theorem Row.form {W:World} {v:Value} {z:Nat} {xs:List (List Value)} (h:Row W v z xs): ∃A n c,v= .slice A n c:=by
 obtain ⟨A,c,e,_⟩:=h
 exact ⟨A,_,c,e⟩
theorem Row.slice {W:World} {v:Value} {z:Nat} {xs:List (List Value)} (h:Row W v z xs): ∃A c,v= .slice A xs.length c∧xs.length≤c∧c≤9223372036854775807:=by
 obtain ⟨A,c,e,h1,_⟩:=h
 exact ⟨A,c,e,h1⟩
theorem Row.len {W:World} {v:Value} {z:Nat} {xs:List (List Value)} (h:Row W v z xs):xs.length≤9223372036854775807:=by
 obtain ⟨A,c,e,⟨h1,h2⟩,_⟩:=h
 omega
theorem Row.at {W:World} {v:Value} {z:Nat} {xs:List (List Value)} (h:Row W v z xs) (hne:xs≠ []): ∃g o cap,v= .slice (some ⟨g,o,none⟩) xs.length cap∧g<W.heap.size∧xs.length≤cap∧cap≤9223372036854775807∧ ∀i x,xs[i]?=some x→At W g (o+i*z) x:=by
 obtain ⟨A,c,e,h1,hr⟩:=h
 obtain ⟨g,o,hA,hg,hr2⟩:=hr.resolve_left hne
 subst hA
 exact ⟨g,o,c,e,hg,h1.1,h1.2,hr2⟩
theorem flat_at {α:Type} (f:α→List Value) (z:Nat) (l:List α) (hz: ∀x∈l,(f x).length=z): ∀(i:Nat) (x:List Value),(l.map f)[i]?=some x→ ∀j u,x[j]?=some u→(l.flatMap f)[i*z+j]?=some u:=by
 induction l with
 |nil=>intro i x hx;simp at hx
 |cons a l ih=>
  intro i x hx j u hj
  have ha:=hz a (by simp)
  cases i with
  |zero=>
   simp only [List.map_cons,List.getElem?_cons_zero,Option.some.injEq] at hx
   subst hx
   have hjl:j<(f a).length:=(List.getElem?_eq_some_iff.1 hj).1
   rw [List.flatMap_cons,Nat.zero_mul,Nat.zero_add,List.getElem?_append_left hjl]
   exact hj
  |succ i=>
   simp only [List.map_cons,List.getElem?_cons_succ] at hx
   have:=ih (fun x hx=>hz x (by simp [hx])) i x hx j u hj
   rw [List.flatMap_cons,List.getElem?_append_right (by rw [ha,Nat.succ_mul];omega),ha,Nat.succ_mul]
   rw [show i*z+z+j-z=i*z+j by omega]
   exact this
theorem Row.of_own {α:Type} {f:α→List Value} {z:Nat} {l:List α} {W:World} {base:Nat} {e:TypeId} {v:Value} (h:W.ownsRow base e z v l.length (l.flatMap f)) (hz: ∀x∈l,(f x).length=z):Row W v z (l.map f):=by
 rcases h.2 with ⟨rfl,h0⟩|⟨g,cap,cur,rfl,hg,hh,hn,hm,hsz,ht⟩
 ·have:l= []:=List.eq_nil_of_length_eq_zero h0
  subst this
  exact Row.nil W z
 ·refine ⟨_,cap,by rw [List.length_map],⟨by rw [List.length_map];exact hn,by unfold maxLen at hm;omega⟩,.inr ⟨g,0,rfl,jq8 hh,fun i x hx j u hj=>?_⟩⟩
  have:=flat_at f z l hz i x hx j u hj
  rw [Nat.zero_add,jq0 hh]
  rw [←Array.getElem?_toList]
  have hlt:i*z+j<(l.flatMap f).length:=(List.getElem?_eq_some_iff.1 this).1
  rw [←ht] at this
  rw [List.getElem?_take] at this
  split at this
  ·exact this
  ·cases this
end Go.Proofs.YtfficindoecpfaaGreatDoor.Vw
namespace Go.Proofs.YtfficindoecpfaaGreatDoor.Rs
open Go.ChangeShapes Go.WideShapes Go.RowKit Mem Vw
def sv (x:Bytes):Value:= .string ⟨x.toArray⟩
def nv (x:Int):Value:= .int .i64 x
def namedc (c:Named):List Value:= [sv c.name,nv c.is_]
def civilc (c:Civil):List Value:= [nv c.y,nv c.m,nv c.d]
def icells (f:Item) (sc sd sn si:Value):List Value:=
 [nv f.kind,sv f.name,nv f.pos,sv f.of_,sv f.act,nv f.word,nv f.times,nv f.within.days,.bool f.within.bus,sv f.within.name,nv f.grace.days,.bool f.grace.bus,sv f.grace.name,sc,sv f.by_,sv f.til,nv f.num.num,nv f.num.den,sv f.unit,sv f.sum,.bool f.fin,sv f.give,sv f.to_,
  .bool (f.days.getD 0 false),.bool (f.days.getD 1 false),.bool (f.days.getD 2 false),.bool (f.days.getD 3 false),.bool (f.days.getD 4 false),.bool (f.days.getD 5 false),.bool (f.days.getD 6 false),sd,sn,si]
theorem icells_len (f:Item) (sc sd sn si:Value):(icells f sc sd sn si).length=33:=rfl
def wf (n:Int):Prop:= -9223372036854775808≤n∧n≤9223372036854775807
def okS (x:Bytes):Prop:=x.length≤maxLen
structure SpanOk (s:Span):Prop where
 days:wf s.days
 name:okS s.name
structure RatioOk (r:Ratio):Prop where
 num:wf r.num
 den:wf r.den
structure NamedOk (c:Named):Prop where
 name:okS c.name
 is_:wf c.is_
structure CivilOk (c:Civil):Prop where
 y:wf c.y
 m:wf c.m
 d:wf c.d
structure ItemOk (f:Item):Prop where
 kind:wf f.kind
 name:okS f.name
 pos:wf f.pos
 of_:okS f.of_
 act:okS f.act
 word:wf f.word
 times:wf f.times
 within:SpanOk f.within
 grace:SpanOk f.grace
 conds: ∀c∈f.conds,NamedOk c
 by_:okS f.by_
 til:okS f.til
 num:RatioOk f.num
 unit:okS f.unit
 sum:okS f.sum
 give:okS f.give
 to_:okS f.to_
 days:f.days.length=7
 dates: ∀c∈f.dates,CivilOk c
 names: ∀c∈f.names,okS c
structure Flat (W:World) (f:Item) (sc sd sn:Value):Prop where
 conds:Row W sc 2 (f.conds.map namedc)
 dates:Row W sd 3 (f.dates.map civilc)
 names:Row W sn 1 (f.names.map fun x=> [sv x])
theorem Flat.below {W W':World} {f:Item} {sc sd sn:Value} (h:Flat W f sc sd sn) (hb:Below W.heap.size W W'):Flat W' f sc sd sn:=⟨h.conds.below hb,h.dates.below hb,h.names.below hb⟩
section
variable {H:Type} {enc:TypeId×Value→H} {W:World} {base:Nat} {spare:Nat→Bool} {held:Bool}
theorem fields {n:Nat} {t:TypeId} {fs:Array Field} {cs:List Value} {y:DataW H×List MemPlace} (ht:Tryz.prog.underlying t=some (.struct fs)) (h:DataW.trod enc Tryz.prog W base spare held n t cs=some y):
  ∃m,n=m+1∧cs.length=Tryz.prog.cellsOf t∧ ∀(i:Nat) (f:Field) (s:Nat),fs[i]?=some f→Tryz.prog.cellsOf f.type=s→ ∃z,DataW.trod enc Tryz.prog W base spare held m f.type ((cs.drop f.offset).take s)=some z:=by
 obtain ⟨xs,m,e,_,hl,hx,hf⟩:=DataW.trod_struct ht h
 refine ⟨m,e,hl,fun i f s hi hs=>?_⟩
 subst hs
 have hi2:i<xs.length:=by rw [hx];exact (Array.getElem?_eq_some_iff.1 hi).1
 exact ⟨xs[i],by rw [hf i f hi,List.getElem?_eq_getElem hi2]⟩
end
end Go.Proofs.YtfficindoecpfaaGreatDoor.Rs
namespace Go.Proofs.YtfficindoecpfaaGreatDoor.Rs
open Go.ChangeShapes Go.WideShapes Go.RowKit Mem Vw
abbrev Sl:=Value×Value×Value×Value
def ic (p:Item×Sl):List Value:=icells p.1 p.2.1 p.2.2.1 p.2.2.2.1 p.2.2.2.2
def IsSlice (v:Value):Prop:= ∃A n c,v= .slice A n c
structure Lies (W:World) (z:List (Item×Sl)) (v:Value):Prop where
 row:Row W v 33 (z.map ic)
 flat: ∀p∈z,Flat W p.1 p.2.1 p.2.2.1 p.2.2.2.1∧IsSlice p.2.2.2.2
theorem Lies.below {W W':World} {z:List (Item×Sl)} {v:Value} (h:Lies W z v) (hb:Below W.heap.size W W'):Lies W' z v:=⟨h.row.below hb,fun p hp=>⟨(h.flat p hp).1.below hb,(h.flat p hp).2⟩⟩
def Items (W:World) (l:List Item) (v:Value):Prop:= ∃z:List (Item×Sl),z.map Prod.fst=l∧Lies W z v
theorem Items.below {W W':World} {l:List Item} {v:Value} (h:Items W l v) (hb:Below W.heap.size W W'):Items W' l v:=by
 obtain ⟨z,h1,h2⟩:=h
 exact ⟨z,h1,h2.below hb⟩
def scells (n:Bytes) (c:Civil) (d:Int) (v:Value):List Value:= [sv n,nv c.y,nv c.m,nv c.d,nv d,v]
structure SourceOk (s:Source):Prop where
 name:okS s.name
 frm:CivilOk s.frm
 days:wf s.days
 items: ∀x∈s.items,ItemOk x
 len:s.items.length≤maxLen
section
variable {H:Type} {enc:TypeId×Value→H} {W:World} {base:Nat} {spare:Nat→Bool} {held:Bool}
end
end Go.Proofs.YtfficindoecpfaaGreatDoor.Rs
namespace Go.Proofs.YtfficindoecpfaaGreatDoor.Vw
open Go.ChangeShapes Go.WideShapes Go.RowKit Mem
section
variable {H:Type} {enc:TypeId×Value→H} {P:Program} {W:World} {base:Nat} {spare:Nat→Bool} {held:Bool}
end
end Go.Proofs.YtfficindoecpfaaGreatDoor.Vw
