/-
  Rows of elements in memory, as they are read; slices of any elements that came in as arguments, opened. Arguments that are items and sources, opened (printed by genopen.py). Lists of items and sources as they are read; arguments that are sources, opened. What the frame says about sizes, brought down to the texts that lie deep in an argument.
-/
import Derived.Test.YtfficindoecpfaaGreatDoorPkMem
import Derived.OpenShut
import Derived.OwnWalk
import Derived.Lib.SmallJoins
import Derived.Test.YtfficindoecpfaaGreatDoorResPlain
import Derived.Test.YtfficindoecpfaaGreatDoorProg
set_option linter.unusedVariables false
set_option linter.unusedSimpArgs false
set_option maxHeartbeats 64000000
set_option maxRecDepth 100000
namespace Go.Proofs.YtfficindoecpfaaGreatDoor.Vw
open Go.ChangeShapes Go.WideShapes Go.RowKit Mem
abbrev Bytes:=List UInt8
def nil:Value:= .slice none 0 0
def At (W:World) (g o:Nat) (cs:List Value):Prop:= ∀j v,cs[j]?=some v→W.cell? ⟨g,o+j,none⟩=some v
theorem At.below {W W':World} {g o:Nat} {cs:List Value} (h:At W g o cs) (hg:g<W.heap.size) (hb:Below W.heap.size W W'):At W' g o cs:=
 fun j v hj=>(hb.cell (p:=⟨g,_,none⟩) hg).trans (h j v hj)
theorem At.cell {W:World} {g o:Nat} {cs:List Value} (h:At W g o cs) (j:Nat) {v:Value} (hv:cs[j]?=some v):W.cell? ⟨g,o+j,none⟩=some v:=h j v hv
theorem At.of_blk {W:World} {g:Nat} {cs:List Value} {t:TypeId} (h:W.heap[g]?=some (.cells cs.toArray t (0,0))):At W g 0 cs:=by
 intro j v hj
 rw [Nat.zero_add,jq0 h]
 simpa using hj
def Row (W:World) (v:Value) (z:Nat) (xs:List (List Value)):Prop:=
 ∃A cap,v= .slice A xs.length cap∧(xs.length≤cap∧cap≤9223372036854775807)∧(xs= []∨ ∃g o,A=some ⟨g,o,none⟩∧g<W.heap.size∧ ∀i x,xs[i]?=some x→At W g (o+i*z) x)
theorem Row.below {W W':World} {v:Value} {z:Nat} {xs:List (List Value)} (h:Row W v z xs) (hb:Below W.heap.size W W'):Row W' v z xs:=by
 obtain ⟨A,cap,rfl,hc,h⟩:=h
 refine ⟨A,cap,rfl,hc,?_⟩
 rcases h with h|⟨g,o,hA,hg,hr⟩
 ·exact .inl h
 ·exact .inr ⟨g,o,hA,Nat.lt_of_lt_of_le hg hb.size,fun i x hx=>(hr i x hx).below hg hb⟩
theorem Row.nil (W:World) (z:Nat):Row W Vw.nil z []:=⟨none,0,rfl,⟨Nat.le_refl _,by decide⟩,.inl rfl⟩
theorem Row.form {W:World} {v:Value} {z:Nat} {xs:List (List Value)} (h:Row W v z xs): ∃A n c,v= .slice A n c:=by
 obtain ⟨A,c,e,_⟩:=h
 exact ⟨A,_,c,e⟩
theorem Row.slice {W:World} {v:Value} {z:Nat} {xs:List (List Value)} (h:Row W v z xs): ∃A c,v= .slice A xs.length c∧xs.length≤c∧c≤9223372036854775807:=by
 obtain ⟨A,c,e,h1,_⟩:=h
 exact ⟨A,c,e,h1⟩
theorem Row.len {W:World} {v:Value} {z:Nat} {xs:List (List Value)} (h:Row W v z xs):xs.length≤9223372036854775807:=by
 obtain ⟨A,c,e,⟨h1,h2⟩,_⟩:=h
 omega
theorem Row.at {W:World} {v:Value} {z:Nat} {xs:List (List Value)} (h:Row W v z xs) (hne:xs≠ []): ∃g o cap,v= .slice (some ⟨g,o,none⟩) xs.length cap∧g<W.heap.size∧xs.length≤cap∧cap≤9223372036854775807∧ ∀i x,xs[i]?=some x→At W g (o+i*z) x:=by
 obtain ⟨A,c,e,h1,hr⟩:=h
 obtain ⟨g,o,hA,hg,hr2⟩:=hr.resolve_left hne
 subst hA
 exact ⟨g,o,c,e,hg,h1.1,h1.2,hr2⟩
theorem flat_at {α:Type} (f:α→List Value) (z:Nat) (l:List α) (hz: ∀x∈l,(f x).length=z): ∀(i:Nat) (x:List Value),(l.map f)[i]?=some x→ ∀j u,x[j]?=some u→(l.flatMap f)[i*z+j]?=some u:=by
 induction l with
 |nil=>intro i x hx;simp at hx
 |cons a l ih=>
  intro i x hx j u hj
  have ha:=hz a (by simp)
  cases i with
  |zero=>
   simp only [List.map_cons,List.getElem?_cons_zero,Option.some.injEq] at hx
   subst hx
   have hjl:j<(f a).length:=(List.getElem?_eq_some_iff.1 hj).1
   rw [List.flatMap_cons,Nat.zero_mul,Nat.zero_add,List.getElem?_append_left hjl]
   exact hj
  |succ i=>
   simp only [List.map_cons,List.getElem?_cons_succ] at hx
   have:=ih (fun x hx=>hz x (by simp [hx])) i x hx j u hj
   rw [List.flatMap_cons,List.getElem?_append_right (by rw [ha,Nat.succ_mul];omega),ha,Nat.succ_mul]
   rw [show i*z+z+j-z=i*z+j by omega]
   exact this
theorem Row.of_own {α:Type} {f:α→List Value} {z:Nat} {l:List α} {W:World} {base:Nat} {e:TypeId} {v:Value} (h:W.ownsRow base e z v l.length (l.flatMap f)) (hz: ∀x∈l,(f x).length=z):Row W v z (l.map f):=by
 rcases h.2 with ⟨rfl,h0⟩|⟨g,cap,cur,rfl,hg,hh,hn,hm,hsz,ht⟩
 ·have:l= []:=List.eq_nil_of_length_eq_zero h0
  subst this
  exact Row.nil W z
 ·refine ⟨_,cap,by rw [List.length_map],⟨by rw [List.length_map];exact hn,by unfold maxLen at hm;omega⟩,.inr ⟨g,0,rfl,jq7 hh,fun i x hx j u hj=>?_⟩⟩
  have:=flat_at f z l hz i x hx j u hj
  rw [Nat.zero_add,jq0 hh]
  rw [←Array.getElem?_toList]
  have hlt:i*z+j<(l.flatMap f).length:=(List.getElem?_eq_some_iff.1 this).1
  rw [←ht] at this
  rw [List.getElem?_take] at this
  split at this
  ·exact this
  ·cases this
theorem lt_of_cell {w:World} {g o:Nat} {v:Value} (h:w.cell? ⟨g,o,none⟩=some v):g<w.heap.size:=by
 rcases Nat.lt_or_ge g w.heap.size with hlt|hge
 ·exact hlt
 ·unfold World.cell? at h
  simp only [Array.getElem?_eq_none hge] at h
  cases h
theorem mapM_get {α β:Type} {f:α→Option β}: ∀ {l:List α} {r:List β},l.mapM f=some r→ ∀(i:Nat) (a:α),l[i]?=some a→ ∃b,r[i]?=some b∧f a=some b
 | [],r,h,i,a,ha=>by simp at ha
 |x::l,r,h,i,a,ha=>by
  simp only [List.mapM_cons,Option.bind_eq_bind,Option.bind_eq_some_iff,Option.pure_def,Option.some.injEq] at h
  obtain ⟨b,hb,bs,hbs,rfl⟩:=h
  cases i with
  |zero=>simp only [List.getElem?_cons_zero,Option.some.injEq] at ha;subst ha;exact ⟨b,rfl,hb⟩
  |succ i=>simpa using mapM_get hbs i a (by simpa using ha)
theorem cells_at {w:World} {base:Nat} {a:Addr} {n:Nat} {cs:List Value} (h:w.cells? base a n=some cs):cs.length=n∧ ∀j v,cs[j]?=some v→w.cell? (a.add j)=some v:=by
 unfold World.cells? at h
 split at h
 ·have hl:cs.length=n:=by simpa using mapM_some_length h
  refine ⟨hl,fun j v hj=>?_⟩
  have hjn:j<n:=by rw [←hl];exact (List.getElem?_eq_some_iff.1 hj).1
  obtain ⟨b,hb,hf⟩:=mapM_get h j j (by simp [hjn])
  rw [hj] at hb
  injection hb with hb
  rw [hb];exact hf
 ·cases h
theorem kq7 {H:Type} {enc:TypeId×Value→H} {P:Program} {W:World} {base:Nat} {spare:Nat→Bool} {held:Bool} {fuel:Nat} {t e:TypeId} {z:Nat} {v:Value} {x:DataW H×List MemPlace} (ht:P.underlying t=some (.slice e)) (hC:P.cellsOf e=z) (hz:0<z) {α:Type} (f:α→List Value) (Q:α→Prop)
  (hE: ∀n cs y,fuel=n+1→DataW.trod enc P W base spare held n e cs=some y→ ∃a,cs=f a∧Q a) (h:DataW.trod enc P W base spare held fuel t [v]=some x):
  ∃l:List α,Row W v z (l.map f)∧(∀a∈l,Q a)∧l.length≤maxLen:=by
 rcases DataW.trod_slice ht h with ⟨hcs,_⟩|⟨a,len,cap,elems,rest,n,hfu,hcs,_,_,hl,hm,hlen,hel,_,_⟩
 ·injection hcs with hcs _
  subst hcs
  exact ⟨[],Row.nil W z,fun a ha=>by simp at ha,by unfold maxLen;simp⟩
 ·injection hcs with hcs _
  subst hcs
  rw [hC] at hel
  have key: ∀i,i<len→ ∃b:α,Q b∧(f b).length=z∧ ∀j u,(f b)[j]?=some u→W.cell? ((a.add (i*z)).add j)=some u:=by
   intro i hi
   have h1:=hel i hi
   have hi2:i<elems.length:=by omega
   rw [List.getElem?_eq_getElem hi2,Option.bind_eq_some_iff] at h1
   obtain ⟨cs,h2,h3⟩:=h1
   obtain ⟨b,hb,hq⟩:=hE n cs _ hfu h3
   subst hb
   obtain ⟨h4,h5⟩:=cells_at h2
   exact ⟨b,hq,h4,h5⟩
  have hall: ∀n,n≤len→ ∃l:List α,l.length=n∧(∀b∈l,Q b)∧ ∀i b,l[i]?=some b→(f b).length=z∧ ∀j u,(f b)[j]?=some u→W.cell? ((a.add (i*z)).add j)=some u:=by
   intro n
   induction n with
   |zero=>intro _;exact ⟨[],rfl,fun b hb=>by simp at hb,fun i b hb=>by simp at hb⟩
   |succ n ih=>
    intro hn
    obtain ⟨l,k1,k2,k3⟩:=ih (by omega)
    obtain ⟨b,q1,q2,q3⟩:=key n (by omega)
    refine ⟨l++ [b],by simp [k1],?_,?_⟩
    ·intro c hc
     rcases List.mem_append.1 hc with hc|hc
     ·exact k2 c hc
     ·simp only [List.mem_cons,List.not_mem_nil,or_false] at hc;subst hc;exact q1
    ·intro i c hc
     by_cases hi:i<l.length
     ·rw [List.getElem?_append_left hi] at hc
      exact k3 i c hc
     ·rw [List.getElem?_append_right (by omega)] at hc
      have hi0:i-l.length=0:=by
       have:=(List.getElem?_eq_some_iff.1 hc).1
       simp at this;omega
      rw [hi0] at hc
      simp only [List.getElem?_cons_zero,Option.some.injEq] at hc
      subst hc
      obtain rfl:i=n:=by omega
      exact ⟨q2,q3⟩
  obtain ⟨l,k1,k2,k3⟩:=hall len (Nat.le_refl _)
  refine ⟨l,⟨some a,cap,by rw [List.length_map,k1],⟨by rw [List.length_map,k1];exact hl,by unfold maxLen at hm;omega⟩,?_⟩,k2,by omega⟩
  by_cases hp:l= []
  ·left;rw [hp];rfl
  ·right
   have hp0:0<l.length:=List.length_pos_iff.2 hp
   obtain ⟨b0,hb0⟩: ∃b,l[0]?=some b:=⟨_,List.getElem?_eq_getElem hp0⟩
   obtain ⟨z0,c0⟩:=k3 0 b0 hb0
   have hu: ∃u,(f b0)[0]?=some u:=⟨_,List.getElem?_eq_getElem (by omega)⟩
   obtain ⟨u,hu⟩:=hu
   have hc0:=c0 0 u hu
   obtain ⟨g,o,rfl⟩: ∃g o,a=⟨g,o,none⟩:=by
    have e0:(a.add (0*z)).add 0=a:=by simp [Addr.add]
    rw [e0] at hc0
    have hs:=World.cell?_spot hc0
    obtain ⟨b,off,spot⟩:=a
    exact ⟨b,off,by rw [show spot=none from hs]⟩
   have hadd: ∀i j,(((⟨g,o,none⟩:Addr).add (i*z)).add j)=⟨g,o+i*z+j,none⟩:=by
    intro i j
    rw [Go.WideShapes.add_plain,Go.WideShapes.add_plain]
   refine ⟨g,o,rfl,?_,?_⟩
   ·rw [hadd] at hc0;exact lt_of_cell hc0
   ·intro i y hy j u hj
    rw [List.getElem?_map] at hy
    obtain ⟨b,hb,rfl⟩:=Option.map_eq_some_iff.1 hy
    have:=(k3 i b hb).2 j u hj
    rw [hadd] at this
    exact this
end Go.Proofs.YtfficindoecpfaaGreatDoor.Vw
namespace Go.Proofs.YtfficindoecpfaaGreatDoor.Rs
open Go.ChangeShapes Go.WideShapes Go.RowKit Mem Vw
def sv (x:Bytes):Value:= .string ⟨x.toArray⟩
def nv (x:Int):Value:= .int .i64 x
def spanc (s:Span):List Value:= [nv s.days,.bool s.bus,sv s.name]
def ratioc (r:Ratio):List Value:= [nv r.num,nv r.den]
def namedc (c:Named):List Value:= [sv c.name,nv c.is_]
def civilc (c:Civil):List Value:= [nv c.y,nv c.m,nv c.d]
def icells (f:Item) (sc sd sn si:Value):List Value:=
 [nv f.kind,sv f.name,nv f.pos,sv f.of_,sv f.act,nv f.word,nv f.times,nv f.within.days,.bool f.within.bus,sv f.within.name,nv f.grace.days,.bool f.grace.bus,sv f.grace.name,sc,sv f.by_,sv f.til,nv f.num.num,nv f.num.den,sv f.unit,sv f.sum,.bool f.fin,sv f.give,sv f.to_,
  .bool (f.days.getD 0 false),.bool (f.days.getD 1 false),.bool (f.days.getD 2 false),.bool (f.days.getD 3 false),.bool (f.days.getD 4 false),.bool (f.days.getD 5 false),.bool (f.days.getD 6 false),sd,sn,si]
theorem icells_len (f:Item) (sc sd sn si:Value):(icells f sc sd sn si).length=33:=rfl
def wf (n:Int):Prop:= -9223372036854775808≤n∧n≤9223372036854775807
def okS (x:Bytes):Prop:=x.length≤maxLen
structure SpanOk (s:Span):Prop where
 days:wf s.days
 name:okS s.name
structure RatioOk (r:Ratio):Prop where
 num:wf r.num
 den:wf r.den
structure NamedOk (c:Named):Prop where
 name:okS c.name
 is_:wf c.is_
structure CivilOk (c:Civil):Prop where
 y:wf c.y
 m:wf c.m
 d:wf c.d
structure ItemOk (f:Item):Prop where
 kind:wf f.kind
 name:okS f.name
 pos:wf f.pos
 of_:okS f.of_
 act:okS f.act
 word:wf f.word
 times:wf f.times
 within:SpanOk f.within
 grace:SpanOk f.grace
 conds: ∀c∈f.conds,NamedOk c
 by_:okS f.by_
 til:okS f.til
 num:RatioOk f.num
 unit:okS f.unit
 sum:okS f.sum
 give:okS f.give
 to_:okS f.to_
 days:f.days.length=7
 dates: ∀c∈f.dates,CivilOk c
 names: ∀c∈f.names,okS c
structure Flat (W:World) (f:Item) (sc sd sn:Value):Prop where
 conds:Row W sc 2 (f.conds.map namedc)
 dates:Row W sd 3 (f.dates.map civilc)
 names:Row W sn 1 (f.names.map fun x=> [sv x])
theorem Flat.below {W W':World} {f:Item} {sc sd sn:Value} (h:Flat W f sc sd sn) (hb:Below W.heap.size W W'):Flat W' f sc sd sn:=⟨h.conds.below hb,h.dates.below hb,h.names.below hb⟩
section
variable {H:Type} {enc:TypeId×Value→H} {W:World} {base:Nat} {spare:Nat→Bool} {held:Bool}
theorem op_int {n:Nat} {cs:List Value} {y:DataW H×List MemPlace} (h:DataW.trod enc Tryz.prog W base spare held n 3 cs=some y): ∃x:Int,cs= [nv x]∧wf x:=by
 obtain ⟨x,e,_,w⟩:=DataW.trod_int Tryz.underlying3 h
 exact ⟨x,e,bounds_i64 w⟩
theorem kz7 {n:Nat} {cs:List Value} {y:DataW H×List MemPlace} (h:DataW.trod enc Tryz.prog W base spare held n 4 cs=some y): ∃x:Bool,cs= [.bool x]:=by
 obtain ⟨x,e,_⟩:=DataW.trod_bool Tryz.underlying4 h
 exact ⟨x,e⟩
theorem kx8 {n:Nat} {cs:List Value} {y:DataW H×List MemPlace} (h:DataW.trod enc Tryz.prog W base spare held n 9 cs=some y): ∃x:Bytes,cs= [sv x]∧okS x:=by
 obtain ⟨s,e,_,w⟩:=DataW.trod_string Tryz.underlying9 h
 refine ⟨s.data.toList,by rw [e];rfl,?_⟩
 show s.data.toList.length≤maxLen
 have hl:s.data.toList.length=s.size:=by simp only [Array.length_toList];rfl
 rw [hl];exact w
theorem jx6 {α:Type} {l:List α} {n:Nat} (h:l.length=n+1): ∃a r,l=a::r∧r.length=n:=by
 cases l with
 |nil=>simp at h
 |cons a r=>exact ⟨a,r,rfl,by simpa using h⟩
theorem nil_of {α:Type} {l:List α} (h:l.length=0):l= []:=List.eq_nil_of_length_eq_zero h
theorem fields {n:Nat} {t:TypeId} {fs:Array Field} {cs:List Value} {y:DataW H×List MemPlace} (ht:Tryz.prog.underlying t=some (.struct fs)) (h:DataW.trod enc Tryz.prog W base spare held n t cs=some y):
  ∃m,n=m+1∧cs.length=Tryz.prog.cellsOf t∧ ∀(i:Nat) (f:Field) (s:Nat),fs[i]?=some f→Tryz.prog.cellsOf f.type=s→ ∃z,DataW.trod enc Tryz.prog W base spare held m f.type ((cs.drop f.offset).take s)=some z:=by
 obtain ⟨xs,m,e,_,hl,hx,hf⟩:=DataW.trod_struct ht h
 refine ⟨m,e,hl,fun i f s hi hs=>?_⟩
 subst hs
 have hi2:i<xs.length:=by rw [hx];exact (Array.getElem?_eq_some_iff.1 hi).1
 exact ⟨xs[i],by rw [hf i f hi,List.getElem?_eq_getElem hi2]⟩
theorem sizeint:Tryz.prog.cellsOf 3=1:=by kernel_rfl
theorem sizebool:Tryz.prog.cellsOf 4=1:=by kernel_rfl
theorem sizestring:Tryz.prog.cellsOf 9=1:=by kernel_rfl
theorem sizeapiSpan:Tryz.prog.cellsOf 41=3:=by kernel_rfl
theorem sizeapiRatio:Tryz.prog.cellsOf 44=2:=by kernel_rfl
theorem sizeA7bool:Tryz.prog.cellsOf 45=7:=by kernel_rfl
theorem sizeSapiNamed:Tryz.prog.cellsOf 42=1:=by kernel_rfl
theorem sizeSapiCivil:Tryz.prog.cellsOf 46=1:=by kernel_rfl
theorem sizeSstring:Tryz.prog.cellsOf 47=1:=by kernel_rfl
theorem sizeSapiItem:Tryz.prog.cellsOf 24=1:=by kernel_rfl
theorem sizeapiItem:Tryz.prog.cellsOf 49=33:=by kernel_rfl
theorem sizeapiNamed:Tryz.prog.cellsOf 109=2:=by kernel_rfl
theorem sizeapiCivil:Tryz.prog.cellsOf 23=3:=by kernel_rfl
theorem op_span {n:Nat} {cs:List Value} {y:DataW H×List MemPlace} (h:DataW.trod enc Tryz.prog W base spare held n 41 cs=some y): ∃x:Span,cs=spanc x∧SpanOk x:=by
 obtain ⟨m,rfl,hl,hf⟩:=fields Tryz.underlying41 h
 rw [sizeapiSpan] at hl
 obtain ⟨c0,cs0,rfl,hl0⟩:=jx6 hl
 obtain ⟨c1,cs1,rfl,hl1⟩:=jx6 hl0
 obtain ⟨c2,cs2,rfl,hl2⟩:=jx6 hl1
 obtain rfl:=nil_of hl2
 obtain ⟨z0,j0⟩: ∃z,DataW.trod enc Tryz.prog W base spare held m 3 [c0]=some z:=by have:=hf 0 _ 1 rfl sizeint;exact this
 obtain ⟨x0,e0,w0⟩:=op_int j0
 simp only [List.cons.injEq,and_true] at e0;subst e0
 obtain ⟨z1,j1⟩: ∃z,DataW.trod enc Tryz.prog W base spare held m 4 [c1]=some z:=by have:=hf 1 _ 1 rfl sizebool;exact this
 obtain ⟨x1,e1⟩:=kz7 j1
 simp only [List.cons.injEq,and_true] at e1;subst e1
 obtain ⟨z2,j2⟩: ∃z,DataW.trod enc Tryz.prog W base spare held m 9 [c2]=some z:=by have:=hf 2 _ 1 rfl sizestring;exact this
 obtain ⟨x2,e2,w2⟩:=kx8 j2
 simp only [List.cons.injEq,and_true] at e2;subst e2
 exact ⟨⟨x0,x1,x2⟩,rfl,⟨w0,w2⟩⟩
theorem op_ratio {n:Nat} {cs:List Value} {y:DataW H×List MemPlace} (h:DataW.trod enc Tryz.prog W base spare held n 44 cs=some y): ∃x:Ratio,cs=ratioc x∧RatioOk x:=by
 obtain ⟨m,rfl,hl,hf⟩:=fields Tryz.underlying44 h
 rw [sizeapiRatio] at hl
 obtain ⟨c0,cs0,rfl,hl0⟩:=jx6 hl
 obtain ⟨c1,cs1,rfl,hl1⟩:=jx6 hl0
 obtain rfl:=nil_of hl1
 obtain ⟨z0,j0⟩: ∃z,DataW.trod enc Tryz.prog W base spare held m 3 [c0]=some z:=by have:=hf 0 _ 1 rfl sizeint;exact this
 obtain ⟨x0,e0,w0⟩:=op_int j0
 simp only [List.cons.injEq,and_true] at e0;subst e0
 obtain ⟨z1,j1⟩: ∃z,DataW.trod enc Tryz.prog W base spare held m 3 [c1]=some z:=by have:=hf 1 _ 1 rfl sizeint;exact this
 obtain ⟨x1,e1,w1⟩:=op_int j1
 simp only [List.cons.injEq,and_true] at e1;subst e1
 exact ⟨⟨x0,x1⟩,rfl,⟨w0,w1⟩⟩
theorem op_named {n:Nat} {cs:List Value} {y:DataW H×List MemPlace} (h:DataW.trod enc Tryz.prog W base spare held n 109 cs=some y): ∃x:Named,cs=namedc x∧NamedOk x:=by
 obtain ⟨m,rfl,hl,hf⟩:=fields Tryz.underlying109 h
 rw [sizeapiNamed] at hl
 obtain ⟨c0,cs0,rfl,hl0⟩:=jx6 hl
 obtain ⟨c1,cs1,rfl,hl1⟩:=jx6 hl0
 obtain rfl:=nil_of hl1
 obtain ⟨z0,j0⟩: ∃z,DataW.trod enc Tryz.prog W base spare held m 9 [c0]=some z:=by have:=hf 0 _ 1 rfl sizestring;exact this
 obtain ⟨x0,e0,w0⟩:=kx8 j0
 simp only [List.cons.injEq,and_true] at e0;subst e0
 obtain ⟨z1,j1⟩: ∃z,DataW.trod enc Tryz.prog W base spare held m 3 [c1]=some z:=by have:=hf 1 _ 1 rfl sizeint;exact this
 obtain ⟨x1,e1,w1⟩:=op_int j1
 simp only [List.cons.injEq,and_true] at e1;subst e1
 exact ⟨⟨x0,x1⟩,rfl,⟨w0,w1⟩⟩
theorem op_civil {n:Nat} {cs:List Value} {y:DataW H×List MemPlace} (h:DataW.trod enc Tryz.prog W base spare held n 23 cs=some y): ∃x:Civil,cs=civilc x∧CivilOk x:=by
 obtain ⟨m,rfl,hl,hf⟩:=fields Tryz.underlying23 h
 rw [sizeapiCivil] at hl
 obtain ⟨c0,cs0,rfl,hl0⟩:=jx6 hl
 obtain ⟨c1,cs1,rfl,hl1⟩:=jx6 hl0
 obtain ⟨c2,cs2,rfl,hl2⟩:=jx6 hl1
 obtain rfl:=nil_of hl2
 obtain ⟨z0,j0⟩: ∃z,DataW.trod enc Tryz.prog W base spare held m 3 [c0]=some z:=by have:=hf 0 _ 1 rfl sizeint;exact this
 obtain ⟨x0,e0,w0⟩:=op_int j0
 simp only [List.cons.injEq,and_true] at e0;subst e0
 obtain ⟨z1,j1⟩: ∃z,DataW.trod enc Tryz.prog W base spare held m 3 [c1]=some z:=by have:=hf 1 _ 1 rfl sizeint;exact this
 obtain ⟨x1,e1,w1⟩:=op_int j1
 simp only [List.cons.injEq,and_true] at e1;subst e1
 obtain ⟨z2,j2⟩: ∃z,DataW.trod enc Tryz.prog W base spare held m 3 [c2]=some z:=by have:=hf 2 _ 1 rfl sizeint;exact this
 obtain ⟨x2,e2,w2⟩:=op_int j2
 simp only [List.cons.injEq,and_true] at e2;subst e2
 exact ⟨⟨x0,x1,x2⟩,rfl,⟨w0,w1,w2⟩⟩
theorem op_days {n:Nat} {cs:List Value} {y:DataW H×List MemPlace} (h:DataW.trod enc Tryz.prog W base spare held n 45 cs=some y): ∃b0 b1 b2 b3 b4 b5 b6:Bool,cs= [.bool b0,.bool b1,.bool b2,.bool b3,.bool b4,.bool b5,.bool b6]:=by
 obtain ⟨xs,m,_,_,hl,hx,hf⟩:=DataW.trod_array Tryz.underlying45 h
 rw [sizeA7bool] at hl
 rw [sizebool] at hf
 obtain ⟨c0,cs0,rfl,hl0⟩:=jx6 hl
 obtain ⟨c1,cs1,rfl,hl1⟩:=jx6 hl0
 obtain ⟨c2,cs2,rfl,hl2⟩:=jx6 hl1
 obtain ⟨c3,cs3,rfl,hl3⟩:=jx6 hl2
 obtain ⟨c4,cs4,rfl,hl4⟩:=jx6 hl3
 obtain ⟨c5,cs5,rfl,hl5⟩:=jx6 hl4
 obtain ⟨c6,cs6,rfl,hl6⟩:=jx6 hl5
 obtain rfl:=nil_of hl6
 have k0:=hf 0 (by omega);rw [List.getElem?_eq_getElem (show 0<xs.length by omega)] at k0
 obtain ⟨b0,e0⟩:=kz7 (cs:= [c0]) k0;simp only [List.cons.injEq,and_true] at e0;subst e0
 have k1:=hf 1 (by omega);rw [List.getElem?_eq_getElem (show 1<xs.length by omega)] at k1
 obtain ⟨b1,e1⟩:=kz7 (cs:= [c1]) k1;simp only [List.cons.injEq,and_true] at e1;subst e1
 have k2:=hf 2 (by omega);rw [List.getElem?_eq_getElem (show 2<xs.length by omega)] at k2
 obtain ⟨b2,e2⟩:=kz7 (cs:= [c2]) k2;simp only [List.cons.injEq,and_true] at e2;subst e2
 have k3:=hf 3 (by omega);rw [List.getElem?_eq_getElem (show 3<xs.length by omega)] at k3
 obtain ⟨b3,e3⟩:=kz7 (cs:= [c3]) k3;simp only [List.cons.injEq,and_true] at e3;subst e3
 have k4:=hf 4 (by omega);rw [List.getElem?_eq_getElem (show 4<xs.length by omega)] at k4
 obtain ⟨b4,e4⟩:=kz7 (cs:= [c4]) k4;simp only [List.cons.injEq,and_true] at e4;subst e4
 have k5:=hf 5 (by omega);rw [List.getElem?_eq_getElem (show 5<xs.length by omega)] at k5
 obtain ⟨b5,e5⟩:=kz7 (cs:= [c5]) k5;simp only [List.cons.injEq,and_true] at e5;subst e5
 have k6:=hf 6 (by omega);rw [List.getElem?_eq_getElem (show 6<xs.length by omega)] at k6
 obtain ⟨b6,e6⟩:=kz7 (cs:= [c6]) k6;simp only [List.cons.injEq,and_true] at e6;subst e6
 exact ⟨b0,b1,b2,b3,b4,b5,b6,rfl⟩
theorem op_item {n:Nat} {cs:List Value} {y:DataW H×List MemPlace} (h:DataW.trod enc Tryz.prog W base spare held n 49 cs=some y):
  ∃(f:Item) (sc sd sn si:Value) (m:Nat) (z:DataW H×List MemPlace),cs=icells f sc sd sn si∧ItemOk f∧Flat W f sc sd sn∧n=m+1∧DataW.trod enc Tryz.prog W base spare held m 24 [si]=some z:=by
 obtain ⟨m,rfl,hl,hf⟩:=fields Tryz.underlying49 h
 rw [sizeapiItem] at hl
 obtain ⟨c0,cs0,rfl,hl0⟩:=jx6 hl
 obtain ⟨c1,cs1,rfl,hl1⟩:=jx6 hl0
 obtain ⟨c2,cs2,rfl,hl2⟩:=jx6 hl1
 obtain ⟨c3,cs3,rfl,hl3⟩:=jx6 hl2
 obtain ⟨c4,cs4,rfl,hl4⟩:=jx6 hl3
 obtain ⟨c5,cs5,rfl,hl5⟩:=jx6 hl4
 obtain ⟨c6,cs6,rfl,hl6⟩:=jx6 hl5
 obtain ⟨c7,cs7,rfl,hl7⟩:=jx6 hl6
 obtain ⟨c8,cs8,rfl,hl8⟩:=jx6 hl7
 obtain ⟨c9,cs9,rfl,hl9⟩:=jx6 hl8
 obtain ⟨c10,cs10,rfl,hl10⟩:=jx6 hl9
 obtain ⟨c11,cs11,rfl,hl11⟩:=jx6 hl10
 obtain ⟨c12,cs12,rfl,hl12⟩:=jx6 hl11
 obtain ⟨c13,cs13,rfl,hl13⟩:=jx6 hl12
 obtain ⟨c14,cs14,rfl,hl14⟩:=jx6 hl13
 obtain ⟨c15,cs15,rfl,hl15⟩:=jx6 hl14
 obtain ⟨c16,cs16,rfl,hl16⟩:=jx6 hl15
 obtain ⟨c17,cs17,rfl,hl17⟩:=jx6 hl16
 obtain ⟨c18,cs18,rfl,hl18⟩:=jx6 hl17
 obtain ⟨c19,cs19,rfl,hl19⟩:=jx6 hl18
 obtain ⟨c20,cs20,rfl,hl20⟩:=jx6 hl19
 obtain ⟨c21,cs21,rfl,hl21⟩:=jx6 hl20
 obtain ⟨c22,cs22,rfl,hl22⟩:=jx6 hl21
 obtain ⟨c23,cs23,rfl,hl23⟩:=jx6 hl22
 obtain ⟨c24,cs24,rfl,hl24⟩:=jx6 hl23
 obtain ⟨c25,cs25,rfl,hl25⟩:=jx6 hl24
 obtain ⟨c26,cs26,rfl,hl26⟩:=jx6 hl25
 obtain ⟨c27,cs27,rfl,hl27⟩:=jx6 hl26
 obtain ⟨c28,cs28,rfl,hl28⟩:=jx6 hl27
 obtain ⟨c29,cs29,rfl,hl29⟩:=jx6 hl28
 obtain ⟨c30,cs30,rfl,hl30⟩:=jx6 hl29
 obtain ⟨c31,cs31,rfl,hl31⟩:=jx6 hl30
 obtain ⟨c32,cs32,rfl,hl32⟩:=jx6 hl31
 obtain rfl:=nil_of hl32
 obtain ⟨z0,j0⟩: ∃z,DataW.trod enc Tryz.prog W base spare held m 3 [c0]=some z:=by have:=hf 0 _ 1 rfl sizeint;exact this
 obtain ⟨x0,e0,w0⟩:=op_int j0
 simp only [List.cons.injEq,and_true] at e0;subst e0
 obtain ⟨z1,j1⟩: ∃z,DataW.trod enc Tryz.prog W base spare held m 9 [c1]=some z:=by have:=hf 1 _ 1 rfl sizestring;exact this
 obtain ⟨x1,e1,w1⟩:=kx8 j1
 simp only [List.cons.injEq,and_true] at e1;subst e1
 obtain ⟨z2,j2⟩: ∃z,DataW.trod enc Tryz.prog W base spare held m 3 [c2]=some z:=by have:=hf 2 _ 1 rfl sizeint;exact this
 obtain ⟨x2,e2,w2⟩:=op_int j2
 simp only [List.cons.injEq,and_true] at e2;subst e2
 obtain ⟨z3,j3⟩: ∃z,DataW.trod enc Tryz.prog W base spare held m 9 [c3]=some z:=by have:=hf 3 _ 1 rfl sizestring;exact this
 obtain ⟨x3,e3,w3⟩:=kx8 j3
 simp only [List.cons.injEq,and_true] at e3;subst e3
 obtain ⟨z4,j4⟩: ∃z,DataW.trod enc Tryz.prog W base spare held m 9 [c4]=some z:=by have:=hf 4 _ 1 rfl sizestring;exact this
 obtain ⟨x4,e4,w4⟩:=kx8 j4
 simp only [List.cons.injEq,and_true] at e4;subst e4
 obtain ⟨z5,j5⟩: ∃z,DataW.trod enc Tryz.prog W base spare held m 3 [c5]=some z:=by have:=hf 5 _ 1 rfl sizeint;exact this
 obtain ⟨x5,e5,w5⟩:=op_int j5
 simp only [List.cons.injEq,and_true] at e5;subst e5
 obtain ⟨z6,j6⟩: ∃z,DataW.trod enc Tryz.prog W base spare held m 3 [c6]=some z:=by have:=hf 6 _ 1 rfl sizeint;exact this
 obtain ⟨x6,e6,w6⟩:=op_int j6
 simp only [List.cons.injEq,and_true] at e6;subst e6
 obtain ⟨z7,j7⟩: ∃z,DataW.trod enc Tryz.prog W base spare held m 41 [c7,c8,c9]=some z:=by have:=hf 7 _ 3 rfl sizeapiSpan;exact this
 obtain ⟨x7,e7,w7⟩:=op_span j7
 simp only [spanc,ratioc,List.cons.injEq,and_true] at e7;obtain ⟨rfl,rfl,rfl⟩:=e7
 obtain ⟨z8,j8⟩: ∃z,DataW.trod enc Tryz.prog W base spare held m 41 [c10,c11,c12]=some z:=by have:=hf 8 _ 3 rfl sizeapiSpan;exact this
 obtain ⟨x8,e8,w8⟩:=op_span j8
 simp only [spanc,ratioc,List.cons.injEq,and_true] at e8;obtain ⟨rfl,rfl,rfl⟩:=e8
 obtain ⟨z9,j9⟩: ∃z,DataW.trod enc Tryz.prog W base spare held m 42 [c13]=some z:=by have:=hf 9 _ 1 rfl sizeSapiNamed;exact this
 obtain ⟨x9,r9,w9,_⟩:=kq7 Tryz.underlying42 sizeapiNamed (by omega) namedc NamedOk (fun _ _ _ _ h=>op_named h) j9
 obtain ⟨z10,j10⟩: ∃z,DataW.trod enc Tryz.prog W base spare held m 9 [c14]=some z:=by have:=hf 10 _ 1 rfl sizestring;exact this
 obtain ⟨x10,e10,w10⟩:=kx8 j10
 simp only [List.cons.injEq,and_true] at e10;subst e10
 obtain ⟨z11,j11⟩: ∃z,DataW.trod enc Tryz.prog W base spare held m 9 [c15]=some z:=by have:=hf 11 _ 1 rfl sizestring;exact this
 obtain ⟨x11,e11,w11⟩:=kx8 j11
 simp only [List.cons.injEq,and_true] at e11;subst e11
 obtain ⟨z12,j12⟩: ∃z,DataW.trod enc Tryz.prog W base spare held m 44 [c16,c17]=some z:=by have:=hf 12 _ 2 rfl sizeapiRatio;exact this
 obtain ⟨x12,e12,w12⟩:=op_ratio j12
 simp only [spanc,ratioc,List.cons.injEq,and_true] at e12;obtain ⟨rfl,rfl⟩:=e12
 obtain ⟨z13,j13⟩: ∃z,DataW.trod enc Tryz.prog W base spare held m 9 [c18]=some z:=by have:=hf 13 _ 1 rfl sizestring;exact this
 obtain ⟨x13,e13,w13⟩:=kx8 j13
 simp only [List.cons.injEq,and_true] at e13;subst e13
 obtain ⟨z14,j14⟩: ∃z,DataW.trod enc Tryz.prog W base spare held m 9 [c19]=some z:=by have:=hf 14 _ 1 rfl sizestring;exact this
 obtain ⟨x14,e14,w14⟩:=kx8 j14
 simp only [List.cons.injEq,and_true] at e14;subst e14
 obtain ⟨z15,j15⟩: ∃z,DataW.trod enc Tryz.prog W base spare held m 4 [c20]=some z:=by have:=hf 15 _ 1 rfl sizebool;exact this
 obtain ⟨x15,e15⟩:=kz7 j15
 simp only [List.cons.injEq,and_true] at e15;subst e15
 obtain ⟨z16,j16⟩: ∃z,DataW.trod enc Tryz.prog W base spare held m 9 [c21]=some z:=by have:=hf 16 _ 1 rfl sizestring;exact this
 obtain ⟨x16,e16,w16⟩:=kx8 j16
 simp only [List.cons.injEq,and_true] at e16;subst e16
 obtain ⟨z17,j17⟩: ∃z,DataW.trod enc Tryz.prog W base spare held m 9 [c22]=some z:=by have:=hf 17 _ 1 rfl sizestring;exact this
 obtain ⟨x17,e17,w17⟩:=kx8 j17
 simp only [List.cons.injEq,and_true] at e17;subst e17
 obtain ⟨z18,j18⟩: ∃z,DataW.trod enc Tryz.prog W base spare held m 45 [c23,c24,c25,c26,c27,c28,c29]=some z:=by have:=hf 18 _ 7 rfl sizeA7bool;exact this
 obtain ⟨b0,b1,b2,b3,b4,b5,b6,e18⟩:=op_days j18
 simp only [spanc,ratioc,List.cons.injEq,and_true] at e18;obtain ⟨rfl,rfl,rfl,rfl,rfl,rfl,rfl⟩:=e18
 obtain ⟨z19,j19⟩: ∃z,DataW.trod enc Tryz.prog W base spare held m 46 [c30]=some z:=by have:=hf 19 _ 1 rfl sizeSapiCivil;exact this
 obtain ⟨x19,r19,w19,_⟩:=kq7 Tryz.underlying46 sizeapiCivil (by omega) civilc CivilOk (fun _ _ _ _ h=>op_civil h) j19
 obtain ⟨z20,j20⟩: ∃z,DataW.trod enc Tryz.prog W base spare held m 47 [c31]=some z:=by have:=hf 20 _ 1 rfl sizeSstring;exact this
 obtain ⟨x20,r20,w20,_⟩:=kq7 Tryz.underlying47 sizestring (by omega) (fun x=> [sv x]) okS (fun _ _ _ _ h=>kx8 h) j20
 obtain ⟨z21,j21⟩: ∃z,DataW.trod enc Tryz.prog W base spare held m 24 [c32]=some z:=by have:=hf 21 _ 1 rfl sizeSapiItem;exact this
 exact ⟨⟨x0,x1,x2,x3,x4,x5,x6,x7,x8,x9,x10,x11,x12,x13,x14,x15,x16,x17,[b0,b1,b2,b3,b4,b5,b6],x19,x20⟩,c13,c30,c31,c32,m,z21,rfl,⟨w0,w1,w2,w3,w4,w5,w6,w7,w8,w9,w10,w11,w12,w13,w14,w16,w17,rfl,w19,w20⟩,⟨r9,r19,r20⟩,rfl,j21⟩
end
end Go.Proofs.YtfficindoecpfaaGreatDoor.Rs
namespace Go.Proofs.YtfficindoecpfaaGreatDoor.Rs
open Go.ChangeShapes Go.WideShapes Go.RowKit Mem Vw
abbrev Sl:=Value×Value×Value×Value
def ic (p:Item×Sl):List Value:=icells p.1 p.2.1 p.2.2.1 p.2.2.2.1 p.2.2.2.2
def IsSlice (v:Value):Prop:= ∃A n c,v= .slice A n c
structure Lies (W:World) (z:List (Item×Sl)) (v:Value):Prop where
 row:Row W v 33 (z.map ic)
 flat: ∀p∈z,Flat W p.1 p.2.1 p.2.2.1 p.2.2.2.1∧IsSlice p.2.2.2.2
theorem Lies.below {W W':World} {z:List (Item×Sl)} {v:Value} (h:Lies W z v) (hb:Below W.heap.size W W'):Lies W' z v:=⟨h.row.below hb,fun p hp=>⟨(h.flat p hp).1.below hb,(h.flat p hp).2⟩⟩
def Items (W:World) (l:List Item) (v:Value):Prop:= ∃z:List (Item×Sl),z.map Prod.fst=l∧Lies W z v
theorem Items.below {W W':World} {l:List Item} {v:Value} (h:Items W l v) (hb:Below W.heap.size W W'):Items W' l v:=by
 obtain ⟨z,h1,h2⟩:=h
 exact ⟨z,h1,h2.below hb⟩
def scells (n:Bytes) (c:Civil) (d:Int) (v:Value):List Value:= [sv n,nv c.y,nv c.m,nv c.d,nv d,v]
structure SourceOk (s:Source):Prop where
 name:okS s.name
 frm:CivilOk s.frm
 days:wf s.days
 items: ∀x∈s.items,ItemOk x
 len:s.items.length≤maxLen
section
variable {H:Type} {enc:TypeId×Value→H} {W:World} {base:Nat} {spare:Nat→Bool} {held:Bool}
theorem op_items {n:Nat} {v:Value} {y:DataW H×List MemPlace} (h:DataW.trod enc Tryz.prog W base spare held n 24 [v]=some y): ∃l,Items W l v∧(∀x∈l,ItemOk x)∧l.length≤maxLen:=by
 obtain ⟨z,hr,hq,hl⟩:=kq7 Tryz.underlying24 sizeapiItem (by omega) ic (fun p=>ItemOk p.1∧Flat W p.1 p.2.1 p.2.2.1 p.2.2.2.1∧IsSlice p.2.2.2.2) (fun n cs y _ h=>by
  obtain ⟨f,sc,sd,sn,si,m,z,e,h1,h2,_,h3⟩:=op_item h
  have h4:IsSlice si:=by
   rcases DataW.trod_slice Tryz.underlying24 h3 with ⟨hc,_⟩|⟨a,len,cap,_,_,_,_,hc,_⟩
   ·injection hc with hc _;exact ⟨_,_,_,hc⟩
   ·injection hc with hc _;exact ⟨_,_,_,hc⟩
  exact ⟨(f,sc,sd,sn,si),e,h1,h2,h4⟩) h
 exact ⟨z.map Prod.fst,⟨z,rfl,hr,fun p hp=>(hq p hp).2⟩,fun x hx=>by
  obtain ⟨p,hp,rfl⟩:=List.mem_map.1 hx
  exact (hq p hp).1,by rw [List.length_map];exact hl⟩
theorem open_source {b0:Nat} {r:Reach} {v:Value} {d:DataW H} {p:List MemPlace} (hv:Value.okWide Tryz.prog W r b0 26 v) (h:DataW.Trod enc Tryz.prog W base spare held 26 v d p):
  ∃(s:Source) (si:Value),v= .agg (scells s.name s.frm s.days si).toArray∧Items W s.items si∧SourceOk s:=by
 obtain ⟨cs,rfl,hsz⟩:=okWide_struct Tryz.underlying26 hv
 obtain ⟨cs⟩:=cs
 obtain ⟨n,hn⟩:=h
 obtain ⟨m,rfl,hl,hf⟩:=fields Tryz.underlying26 hn
 have hC:Tryz.prog.cellsOf 26=6:=by kernel_rfl
 rw [hC] at hl
 have hl':cs.length=6:=hl
 obtain ⟨c0,cs0,rfl,hl0⟩:=jx6 hl'
 obtain ⟨c1,cs1,rfl,hl1⟩:=jx6 hl0
 obtain ⟨c2,cs2,rfl,hl2⟩:=jx6 hl1
 obtain ⟨c3,cs3,rfl,hl3⟩:=jx6 hl2
 obtain ⟨c4,cs4,rfl,hl4⟩:=jx6 hl3
 obtain ⟨c5,cs5,rfl,hl5⟩:=jx6 hl4
 obtain rfl:=nil_of hl5
 obtain ⟨z0,j0⟩: ∃z,DataW.trod enc Tryz.prog W base spare held m 9 [c0]=some z:=by have:=hf 0 _ 1 rfl sizestring;exact this
 obtain ⟨z1,j1⟩: ∃z,DataW.trod enc Tryz.prog W base spare held m 23 [c1,c2,c3]=some z:=by have:=hf 1 _ 3 rfl sizeapiCivil;exact this
 obtain ⟨z2,j2⟩: ∃z,DataW.trod enc Tryz.prog W base spare held m 3 [c4]=some z:=by have:=hf 2 _ 1 rfl sizeint;exact this
 obtain ⟨z3,j3⟩: ∃z,DataW.trod enc Tryz.prog W base spare held m 24 [c5]=some z:=by have:=hf 3 _ 1 rfl sizeSapiItem;exact this
 obtain ⟨x0,e0,w0⟩:=kx8 j0
 obtain ⟨x1,e1,w1⟩:=op_civil j1
 obtain ⟨x2,e2,w2⟩:=op_int j2
 obtain ⟨l,hi,hq,hll⟩:=op_items j3
 simp only [List.cons.injEq,and_true] at e0 e2
 simp only [civilc,List.cons.injEq,and_true] at e1
 obtain ⟨rfl,rfl,rfl⟩:=e1
 subst e0 e2
 exact ⟨⟨x0,x1,x2,l⟩,c5,rfl,hi,w0,w1,w2,hq,hll⟩
end
end Go.Proofs.YtfficindoecpfaaGreatDoor.Rs
namespace Go.Proofs.YtfficindoecpfaaGreatDoor.Vw
open Go.ChangeShapes Go.WideShapes Go.RowKit Mem
section
variable {H:Type} {enc:TypeId×Value→H} {P:Program} {W:World} {base:Nat} {spare:Nat→Bool} {held:Bool}
end
end Go.Proofs.YtfficindoecpfaaGreatDoor.Vw
