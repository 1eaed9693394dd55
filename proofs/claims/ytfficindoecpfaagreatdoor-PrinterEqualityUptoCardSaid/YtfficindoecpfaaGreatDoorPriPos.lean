/-
  Trees that are equal apart from their offsets, at any depth: they have the same text, and the text says it. No condition.
-/
import Derived.Test.YtfficindoecpfaaGreatDoorPkPriF
import Derived.Test.YtfficindoecpfaaGreatDoorPriSay
set_option linter.unusedVariables false
set_option linter.unusedSimpArgs false
namespace Go.Proofs.YtfficindoecpfaaGreatDoor.Pt
open Rs Ic
inductive EqD:Ic.Tree→Ic.Tree→Prop where
 |node (x y:Ic.Tree):EqH x.h y.h→y.l.length=x.l.length→(∀(j:Nat) (u v:Ic.Tree),x.l[j]?=some u→y.l[j]?=some v→EqD u v)→EqD x y
def EqLs (a b:List Ic.Tree):Prop:=b.length=a.length∧ ∀(j:Nat) (u v:Ic.Tree),a[j]?=some u→b[j]?=some v→EqD u v
theorem eqD_iff (x y:Ic.Tree):EqD x y↔EqH x.h y.h∧EqLs x.l y.l:=⟨fun h=>by cases h with|node _ _ h1 h2 h3=>exact ⟨h1,h2,h3⟩,fun h=> .node x y h.1 h.2.1 h.2.2⟩
theorem eqLs_dt (a b:List DT):EqLs (a.map DT.tree) (b.map DT.tree)↔b.length=a.length∧ ∀(j:Nat) (x y:DT),a[j]?=some x→b[j]?=some y→EqD x.tree y.tree:=by
 unfold EqLs
 rw [List.length_map,List.length_map]
 refine ⟨fun ⟨h1,h2⟩=>⟨h1,fun j x y hx hy=>h2 j _ _ (by rw [List.getElem?_map,hx];rfl) (by rw [List.getElem?_map,hy];rfl)⟩,fun ⟨h1,h2⟩=>⟨h1,fun j u v hu hv=>?_⟩⟩
 rw [List.getElem?_map] at hu hv
 obtain ⟨x,hx,rfl⟩:=Option.map_eq_some_iff.1 hu
 obtain ⟨y,hy,rfl⟩:=Option.map_eq_some_iff.1 hv
 exact h2 j x y hx hy
theorem eqD_dt (x y:DT):EqD x.tree y.tree↔EqH x.h y.h∧EqLs (x.l.map DT.tree) (y.l.map DT.tree):=by
 rw [eqD_iff,DT.tree_h,DT.tree_h,DT.tree_l,DT.tree_l]
theorem eqH_symm {x y:Rs.Item} (h:EqH x y):EqH y x:=by
 have h:y= {x with pos:=y.pos}:=h
 show x= {y with pos:=x.pos}
 rw [h]
theorem eqH_trans {x y z:Rs.Item} (h1:EqH x y) (h2:EqH y z):EqH x z:=Eq.trans h2 (congrArg (fun u:Rs.Item=> {u with pos:=z.pos}) h1)
theorem EqD.symm {x y:Ic.Tree} (h:EqD x y):EqD y x:=by
 induction h with
 |node x y h1 h2 h3 ih=>exact .node y x (eqH_symm h1) h2.symm (fun j u v hu hv=>ih j v u hv hu)
theorem some_at {α β:Type} {a:List α} {b:List β} {j:Nat} {u:α} (h:b.length=a.length) (hu:a[j]?=some u): ∃v,b[j]?=some v:=by
 have h1:=(List.getElem?_eq_some_iff.1 hu).1
 exact ⟨_,List.getElem?_eq_getElem (by omega)⟩
theorem EqD.trans {x y:Ic.Tree} (h:EqD x y): ∀z,EqD y z→EqD x z:=by
 induction h with
 |node x y h1 h2 h3 ih=>
  intro z hz
  cases hz with
  |node _ _ k1 k2 k3=>
   refine .node x z (eqH_trans h1 k1) (k2.trans h2) (fun j u v hu hv=>?_)
   obtain ⟨w,hw⟩:=some_at h2 hu
   exact ih j u w hu hw v (k3 j w v hw hv)
theorem EqLs.symm {a b:List Ic.Tree} (h:EqLs a b):EqLs b a:=⟨h.1.symm,fun j u v hu hv=>(h.2 j v u hv hu).symm⟩
theorem EqLs.trans {a b c:List Ic.Tree} (h:EqLs a b) (k:EqLs b c):EqLs a c:=⟨k.1.trans h.1,fun j u v hu hv=>by
 obtain ⟨w,hw⟩:=some_at h.1 hu
 exact (h.2 j u w hu hw).trans v (k.2 j w v hw hv)⟩
theorem al2_of {α β:Type} {R:α→β→Prop}: ∀(a:List α) (b:List β),b.length=a.length→(∀(j:Nat) (u:α) (v:β),a[j]?=some u→b[j]?=some v→R u v)→Al2 R a b
 | [],[],_,_=>trivial
 |x::a,y::b,h,k=>⟨k 0 x y rfl rfl,al2_of a b (by simpa using h) (fun j u v hu hv=>k (j+1) u v (by simpa using hu) (by simpa using hv))⟩
 | [],y::b,h,_=>by simp at h
 |x::a,[],h,_=>by simp at h
theorem EqLs.al {a b:List Ic.Tree} (h:EqLs a b):Al2 EqD a b:=al2_of a b h.1 h.2
theorem circ_pos (x:Rs.Item) (p:Int):circLeft {x with pos:=p}= {circLeft x with pos:=p}:=by
 unfold circLeft
 by_cases h:x.by_= []∧x.til= []
 ·rw [if_pos (show ({x with pos:=p}:Rs.Item).by_= []∧({x with pos:=p}:Rs.Item).til= [] from h),if_pos h]
 ·rw [if_neg (show ¬(({x with pos:=p}:Rs.Item).by_= []∧({x with pos:=p}:Rs.Item).til= []) from h),if_neg h]
theorem cons_pos (x:Rs.Item) (p:Int):consLeft {x with pos:=p}= {consLeft x with pos:=p}:=by
 unfold consLeft
 by_cases h:x.sum= []∧x.unit= []
 ·rw [if_pos (show ({x with pos:=p}:Rs.Item).sum= []∧({x with pos:=p}:Rs.Item).unit= [] from h),if_pos h]
 ·rw [if_neg (show ¬(({x with pos:=p}:Rs.Item).sum= []∧({x with pos:=p}:Rs.Item).unit= []) from h),if_neg h]
  by_cases h2:x.sum= []
  ·rw [if_pos (show ({x with pos:=p}:Rs.Item).sum= [] from h2),if_pos h2]
  ·rw [if_neg (show ¬({x with pos:=p}:Rs.Item).sum= [] from h2),if_neg h2]
theorem ite_pos (p:Int) (c:Prop) [Decidable c] (a b:Rs.Item):(if c then {a with pos:=p} else {b with pos:=p})= {(if c then a else b) with pos:=p}:=by split<;>rfl
theorem lpos {x:Rs.Item} (hk:1≤x.kind∧x.kind≤14) (p:Int):left {x with pos:=p}= {left x with pos:=p}:=by
 have hc:x.kind=1∨x.kind=2∨x.kind=3∨x.kind=4∨x.kind=5∨x.kind=6∨x.kind=7∨x.kind=8∨x.kind=9∨x.kind=10∨x.kind=11∨x.kind=12∨x.kind=13∨x.kind=14:=by omega
 rcases hc with h|h|h|h|h|h|h|h|h|h|h|h|h|h
 ·rw [left_1 h,left_1 (h:= {x with pos:=p}) h]
 ·rw [left_2 h,left_2 (h:= {x with pos:=p}) h]
 ·rw [left_3 h,left_3 (h:= {x with pos:=p}) h]
  exact ite_pos p (x.unit= []) {x with name:= [],word:=0} {amountLeft x with name:= [],word:=0}
 ·rw [left_4 h,left_4 (h:= {x with pos:=p}) h]
 ·rw [left_5 h,left_5 (h:= {x with pos:=p}) h]
 ·rw [left_6 h,left_6 (h:= {x with pos:=p}) h]
 ·rw [left_7 h,left_7 (h:= {x with pos:=p}) h];rfl
 ·rw [left_8 h,left_8 (h:= {x with pos:=p}) h]
  unfold actLeft
  by_cases hw:x.word=1
  ·rw [if_pos hw,if_pos (show ({x with pos:=p}:Rs.Item).word=1 from hw)]
   exact ite_pos p (x.unit= []) {x with name:= [],of_:= [],to_:= [],word:=0} {amountLeft x with name:= [],of_:= [],to_:= [],word:=0}
  ·rw [if_neg hw,if_neg (show ¬({x with pos:=p}:Rs.Item).word=1 from hw)]
 ·rw [left_9 h,left_9 (h:= {x with pos:=p}) h]
  unfold dutyLeft
  rw [←cons_pos,←circ_pos]
 ·rw [left_10 h,left_10 (h:= {x with pos:=p}) h,←cons_pos,←circ_pos]
 ·rw [left_11 h,left_11 (h:= {x with pos:=p}) h,←circ_pos]
 ·rw [left_12 h,left_12 (h:= {x with pos:=p}) h,←circ_pos]
 ·rw [left_13 h,left_13 (h:= {x with pos:=p}) h]
 ·rw [left_14 h,left_14 (h:= {x with pos:=p}) h]
theorem fkind {h:Rs.Item} {l:List Bytes} (e:flatT h=some l):1≤h.kind∧h.kind≤14:=by
 by_cases hc:1≤h.kind∧h.kind≤14
 ·exact hc
 ·unfold flatT at e
  rw [if_neg (by omega),if_neg (by omega),if_neg (by omega),if_neg (by omega),if_neg (by omega),if_neg (by omega),if_neg (by omega),if_neg (by omega),if_neg (by omega),if_neg (by omega),if_neg (by omega),if_neg (by omega),if_neg (by omega)] at e
  cases e
theorem blank_eq {x y:Rs.Item} (hk:1≤x.kind∧x.kind≤14) (h:EqH x y):blank (left y)↔blank (left x):=by
 have h:y= {x with pos:=y.pos}:=h
 rw [h,lpos hk]
 exact Iff.rfl
theorem fl_pos (b:Bool) {x y:Tree} (h:EqD x y):flatL b y=flatL b x:=by
 obtain ⟨h1,h2⟩:=(eqD_iff x y).1 h
 have e:y.h= {x.h with pos:=y.h.pos}:=h1
 unfold flatL
 rw [show flatT y.h=flatT x.h by rw [e];rfl]
 cases hf:flatT x.h with
 |none=>rfl
 |some l=>
  have hn:y.l= []↔x.l= []:=by rw [←List.length_eq_zero_iff,←List.length_eq_zero_iff,h2.1]
  have hb:=blank_eq (fkind hf) h1
  dsimp only
  by_cases hc:blank (left x.h)∧x.l= []
  ·rw [if_pos hc,if_pos ⟨hb.2 hc.1,hn.2 hc.2⟩]
  ·rw [if_neg hc,if_neg (fun k=>hc ⟨hb.1 k.1,hn.1 k.2⟩)]
theorem inL_eq {x y:Tree} (h:EqD x y):innerL y=innerL x:=by
 have e:y.h= {x.h with pos:=y.h.pos}:=((eqD_iff x y).1 h).1
 unfold innerL
 rw [show y.h.kind=x.h.kind by rw [e],fl_pos true h]
theorem each_pos {R:Tree→Tree→Prop} {f:Tree→Option (List Line)} (hf: ∀x y,R x y→f y=f x): ∀(a b:List Tree),Al2 R a b→each f b=each f a
 | [],[],_=>rfl
 |x::a,y::b,h=>by
  show catL (f y) (each f b)=catL (f x) (each f a)
  rw [hf x y h.1,each_pos hf a b h.2]
theorem itL_eq {x y:Tree} (h:EqD x y):itemL y=itemL x:=by
 obtain ⟨h1,h2⟩:=(eqD_iff x y).1 h
 have e:y.h= {x.h with pos:=y.h.pos}:=h1
 unfold itemL
 rw [show y.h.kind=x.h.kind by rw [e]]
 by_cases h13:x.h.kind=13
 ·rw [if_pos h13,if_pos h13,show head y.h=head x.h by rw [e];rfl]
  cases hx:head x.h with
  |none=>rfl
  |some l=>
   dsimp only
   rw [each_pos (fun u v k=>inL_eq k) _ _ h2.al]
   cases hm:each innerL x.l with
   |none=>rfl
   |some ms=>
    dsimp only
    have hb:=blank_eq (x:=x.h) (y:=y.h) (by omega) h1
    by_cases hc:blank (left x.h)
    ·rw [if_pos hc,if_pos (hb.2 hc)]
    ·rw [if_neg hc,if_neg (fun k=>hc (hb.1 k))]
 ·rw [if_neg h13,if_neg h13]
  exact fl_pos false h
theorem sizes_al2: ∀(a b:List Tree),Al2 (fun u v=>sizes v.l=sizes u.l) a b→sizes b=sizes a
 | [],[],_=>rfl
 |x::a,y::b,h=>by rw [kq4,kq4,h.1,sizes_al2 a b h.2]
theorem EqD.sizes {x y:Tree} (h:EqD x y):sizes y.l=sizes x.l:=by
 induction h with
 |node x y h1 h2 h3 ih=>exact sizes_al2 _ _ (al2_of _ _ h2 ih)
theorem EqLs.sizes {a b:List Tree} (h:EqLs a b):sizes b=sizes a:=sizes_al2 _ _ (al2_of _ _ h.1 (fun j u v hu hv=>(h.2 j u v hu hv).sizes))
structure EqA (s t:Src):Prop where
 name:t.name=s.name
 frm:t.frm=s.frm
 days:t.days=s.days
 items:EqLs s.items t.items
theorem print_pos {s t:Src} (h:EqA s t):print t=print s:=by
 have e:srcL t=srcL s:=by
  unfold srcL
  rw [show firstT t=firstT s by unfold firstT;rw [h.name,h.frm,h.days],each_pos (fun u v k=>itL_eq k) _ _ h.items.al]
 unfold print
 rw [e,h.items.sizes]
theorem eqI_d {x y:Tree} (h:EqI x y):EqD x y:= .node x y h.1 (by rw [h.2.1,h.2.2]) (fun j u v hu=>by rw [h.2.1] at hu;simp at hu)
theorem eqT_d {x y:Tree} (h:EqT x y):EqD x y:=by
 obtain ⟨h1,h2⟩:=h
 have:=h2.at
 exact .node x y h1 this.1 (fun j u v hu hv=>eqI_d (this.2 j u v hu hv))
theorem eqS_a {s t:Src} (h:EqS s t):EqA s t:=by
 have:=h.items.at
 exact ⟨h.name,h.frm,h.days,this.1,fun j u v hu hv=>eqT_d (this.2 j u v hu hv)⟩
theorem text_iff {s t:Src} {F G:Rs.Bytes} (h1:print s= .ok F) (h2:print t= .ok G) (k1: ∀x∈s.items,H7 x) (k2: ∀x∈t.items,H7 x):F=G↔EqA s t:=by
 constructor
 ·rintro rfl
  obtain ⟨S,e1,e2⟩:=parse_print h1 k1
  obtain ⟨S',e3,e4⟩:=parse_print h2 k2
  rw [e1] at e3
  injection e3 with e3
  subst e3
  have a1:=eqS_a e2
  have a2:=eqS_a e4
  exact ⟨a2.name.symm.trans a1.name,a2.frm.symm.trans a1.frm,a2.days.symm.trans a1.days,a1.items.trans a2.items.symm⟩
 ·intro h
  have:=print_pos h
  rw [h1,h2] at this
  injection this with this
  exact this.symm
theorem bk1_pos {h g:Rs.Item} (e:EqH h g) (b:Bk1 h):Bk1 g:=by
 have e:g= {h with pos:=g.pos}:=e
 rw [e]
 cases b
 constructor<;>assumption
theorem sm1_pos {h g:Rs.Item} (e:EqH h g) (b:Sm1 h):Sm1 g:=by
 have e:g= {h with pos:=g.pos}:=e
 rw [e]
 cases b
 constructor<;>assumption
theorem at_of {a b:List DT} (h:EqLs (a.map DT.tree) (b.map DT.tree)) {z:DT} (hz:z∈b): ∃u,u∈a∧EqD u.tree z.tree:=by
 obtain ⟨h1,h2⟩:=(eqLs_dt a b).1 h
 obtain ⟨j,hj⟩:=List.mem_iff_getElem?.1 hz
 obtain ⟨u,hu⟩:=some_at h1.symm hj
 exact ⟨u,List.mem_of_getElem? hu,h2 j u z hu hj⟩
theorem bk_pos {x:DT} (b:Bk x): ∀y:DT,EqD x.tree y.tree→Bk y:=by
 induction b with
 |node x b1 b2 b3 ih=>
  intro y e
  obtain ⟨e1,e2⟩:=(eqD_dt x y).1 e
  refine .node y (bk1_pos e1 b1) (by have:=((eqLs_dt _ _).1 e2).1;omega) (fun z hz=>?_)
  obtain ⟨u,hu,k⟩:=at_of e2 hz
  exact ih u hu z k
theorem sm_pos {x:DT} (b:Sm x): ∀y:DT,EqD x.tree y.tree→Sm y:=by
 induction b with
 |node x b1 b3 ih=>
  intro y e
  obtain ⟨e1,e2⟩:=(eqD_dt x y).1 e
  refine .node y (sm1_pos e1 b1) (fun z hz=>?_)
  obtain ⟨u,hu,k⟩:=at_of e2 hz
  exact ih u hu z k
theorem tsz_pos {a b:List DT} (h:EqLs (a.map DT.tree) (b.map DT.tree)):tsz b=tsz a:=by
 unfold Ic.tsz
 rw [Ic.jj3,Ic.jj3]
 exact h.sizes
theorem src_pos {W W':Go.World} {x:Ic.Src} {l r:List DT} {iv rv:Go.Value} (h:SrcIn W x l iv) (he:EqLs (l.map DT.tree) (r.map DT.tree)) (hL:LayL (fun g=>g<W'.heap.size) W' r rv):SrcIn W' {x with items:=r.map DT.tree} r rv:=
 ⟨hL,rfl,fun y hy=>by obtain ⟨u,hu,k⟩:=at_of he hy;exact bk_pos (h.bk u hu) y k,by rw [tsz_pos he];exact h.size,h.name⟩
theorem light_pos {x:Ic.Src} {l r:List DT} (h:Light x l) (he:EqLs (l.map DT.tree) (r.map DT.tree)):Light {x with items:=r.map DT.tree} r:=
 ⟨h.name,by rw [tsz_pos he];exact h.size,fun y hy=>by obtain ⟨u,hu,k⟩:=at_of he hy;exact sm_pos (h.sm u hu) y k⟩
theorem printed_pos {W:Go.World} {x:Ic.Src} {l r:List DT} {iv:Go.Value} (h:SrcIn W x l iv) (he:EqLs (l.map DT.tree) (r.map DT.tree)):printed {x with items:=r.map DT.tree}=printed x:=by
 unfold printed
 rw [print_pos (s:=x) (t:= {x with items:=r.map DT.tree}) ⟨rfl,rfl,rfl,by rw [←h.tr];exact he⟩]
theorem h7_of {W:Go.World} {x:Ic.Src} {l:List DT} {iv:Go.Value} (hI:SrcIn W x l iv): ∀t∈x.items,H7 t:=fun t ht=>by
 rw [←hI.tr] at ht
 obtain ⟨y,hy,rfl⟩:=List.mem_map.1 ht
 have hb:=hI.bk y hy
 refine ⟨by rw [DT.tree_h];exact hb.fine.days,fun z hz=>?_⟩
 rw [DT.tree_l] at hz
 obtain ⟨u,hu,rfl⟩:=List.mem_map.1 hz
 rw [DT.tree_h]
 exact (hb.inner u hu).fine.days
end Go.Proofs.YtfficindoecpfaaGreatDoor.Pt
