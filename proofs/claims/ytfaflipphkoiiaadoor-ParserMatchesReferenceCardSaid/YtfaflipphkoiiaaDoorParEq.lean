/-
  What the function Items of package estoppelref07 returns for lists of items that differ at most in their offsets.
-/
import Derived.Test.YtfaflipphkoiiaaDoorParEqA
import Derived.Test.YtfaflipphkoiiaaDoorParLike
set_option maxHeartbeats 64000000
set_option maxRecDepth 100000
set_option linter.unusedVariables false
namespace Go.Proofs.YtfaflipphkoiiaaDoor.Pr
open Go.RowKit Mem
open Lx (Tok bs jx7)
theorem jj3 {P:Program} {ops:Array Oper} {rest:List Oper} {op:Oper} {a:Act} {w:World} {Q:Exit→Act→World→Prop} (hw:Region.wanted op (yielded ops a.tmps)=true) (ty:TypeId) (x:Operand) (ho:op.op= .load ty x)
  (b o:Nat) (hx:a.eval x= .pointer (some ⟨b,o,none⟩)) (cs:List Value) (d:TypeDesc) (hc:w.rangeAt b o cs)
  (hu:P.underlying ty=some d) (hd:d.isRow=true) (hi:(P.info? ty).map (·.size)=some cs.length)
  (h:wpList P ops Q rest (a.put op.dst (.agg cs.toArray)) w):wpList P ops Q (op::rest) a w:=
 wpList_step fun _ hK=>by rw [if_pos hw];exact wp_load_mid ty x ho b o hx cs d hc hu hd hi (hK _ _ h)
theorem range_of_blk {w:World} {g:Nat} {l:List Value} {t:TypeId} (h:w.heap[g]?=some (.cells l.toArray t (0,0))):w.rangeAt g 0 l:=fun j v hv=>by
 rw [Nat.zero_add,jq0 h]
 simpa using hv
def EqC (at_:Bool) (w:World) (x y:Sx):Prop:=EqF at_ x.1 y.1∧VFlat w x.1 x.2.1 x.2.2.1 x.2.2.2.1∧VFlat w y.1 y.2.1 y.2.2.1 y.2.2.2.1∧IsSlice x.2.2.2.2∧IsSlice y.2.2.2.2∧
 ∀W',Below w.heap.size w W'→Calls Tryd.prog 18 #[x.2.2.2.2,y.2.2.2.2,.bool at_] W' fun e w'=>e= .returned (.bool true)∧Below W'.heap.size W' w'
theorem posb (at_:Bool) (f g:Flat) (h:EqF at_ f g):at_=true→((f.pos:Int) !=(g.pos:Int))=false:=by
 intro h1
 rw [h.2 h1]
 simp
theorem items_any (at_:Bool) (xs ys:List Sx) (va vb:Value) (w:World) (hlen:ys.length=xs.length) (hxy: ∀i (h:i<xs.length) (h':i<ys.length),EqC at_ w xs[i] ys[i]) (ha:Row w va 33 (xs.map sxc)) (hb:Row w vb 33 (ys.map sxc)):
  Calls Tryd.prog 18 #[va,vb,.bool at_] w fun e w'=>e= .returned (.bool true)∧Below w.heap.size w w':=by
 have hl:=ha.len
 obtain ⟨A,ca,rfl,hca,ha⟩:=ha
 obtain ⟨B,cb,rfl,hcb,hb⟩:=hb
 simp only [List.length_map] at hl ⊢
 rw [hlen]
 have HA:=hdd ha;clear ha
 have HB:=hdd hb;clear hb
 have HXY:=hdd hxy;clear hxy
 clear hca hcb
 go_enter Tryd.func18,Tryd.ntmps18
 go_wp2_with fail
 go_loopw [7] (fun i wr=> ∃(j:Nat),i= .int .i64 j∧j≤xs.length∧Hid (Below w.heap.size w wr)) (fun i _=>xs.length-(intOf i).toNat)
 case atStart=>exact ⟨0,rfl,by omega,Below.refl _ _⟩
 case round=>
  obtain ⟨j,rfl,hj,HBW⟩:=hrel
  by_cases hlt:j<xs.length
  ·have hlt':j<ys.length:=by omega
   obtain ⟨g1,o1,rfl,hg1,hr1⟩:=HA.o.resolve_left (by intro e;rw [List.map_eq_nil_iff] at e;rw [e] at hlt;simp at hlt)
   obtain ⟨g2,o2,rfl,hg2,hr2⟩:=HB.o.resolve_left (by intro e;rw [List.map_eq_nil_iff] at e;rw [e] at hlt';simp at hlt')
   have hr1:=hr1 j (sxc xs[j]) (by simp [hlt])
   have hr2:=hr2 j (sxc ys[j]) (by simp [hlt'])
   have hE:=HXY.o j hlt hlt'
   generalize xs[j]=x at*
   generalize ys[j]=y at*
   obtain ⟨f,sc,sd,sn,si⟩:=x
   obtain ⟨f',tc,td,tn,ti⟩:=y
   obtain ⟨hF,hV1,hV2,hi1,hi2,hcall⟩:=hE
   simp only at hF hV1 hV2 hi1 hi2 hcall
   obtain ⟨P,hP⟩: ∃P,f'.pos=P:=⟨_,rfl⟩
   have hpb:=posb at_ f f' hF
   rw [hP] at hpb
   have hff:=hF.1
   rw [hP] at hff
   subst hff
   obtain ⟨A1,n1,c1,rfl⟩:=hV1.1.form
   obtain ⟨A2,n2,c2,rfl⟩:=hV1.2.1.form
   obtain ⟨A3,n3,c3,rfl⟩:=hV1.2.2.form
   obtain ⟨A4,n4,c4,rfl⟩:=hi1
   obtain ⟨B1,m1,d1,rfl⟩:=hV2.1.form
   obtain ⟨B2,m2,d2,rfl⟩:=hV2.2.1.form
   obtain ⟨B3,m3,d3,rfl⟩:=hV2.2.2.form
   obtain ⟨B4,m4,d4,rfl⟩:=hi2
   have HR1:Hid (wr.rangeAt g1 (o1+j*33) (icells f (.slice A1 n1 c1) (.slice A2 n2 c2) (.slice A3 n3 c3) (.slice A4 n4 c4))):=fun i u hi=>(HBW.o.cell (p:=⟨g1,_,none⟩) hg1).trans (hr1 i u hi)
   have HR2:Hid (wr.rangeAt g2 (o2+j*33) (icells {f with pos:=P} (.slice B1 m1 d1) (.slice B2 m2 d2) (.slice B3 m3 d3) (.slice B4 m4 d4))):=fun i u hi=>(HBW.o.cell (p:=⟨g2,_,none⟩) hg2).trans (hr2 i u hi)
   have HV1:=hdd hV1;have HV2:=hdd hV2;have HCALL:=hdd hcall
   clear hr1 hr2 hV1 hV2 hcall hF hP
   obtain ⟨u1,hu1⟩: ∃u,wr.alloc (.cells (icells f (.slice A1 n1 c1) (.slice A2 n2 c2) (.slice A3 n3 c3) (.slice A4 n4 c4)).toArray 57)=u:=⟨_,rfl⟩
   obtain ⟨u2,hu2⟩: ∃u,u1.alloc (.cells (icells {f with pos:=P} (.slice B1 m1 d1) (.slice B2 m2 d2) (.slice B3 m3 d3) (.slice B4 m4 d4)).toArray 57)=u:=⟨_,rfl⟩
   have HX1:Hid (IB wr.heap.size f (.slice A1 n1 c1) (.slice A2 n2 c2) (.slice A3 n3 c3) (.slice A4 n4 c4) u1):=by show IB _ _ _ _ _ _ u1;rw [←hu1];exact jq5 rfl
   have HX:Hid (IB wr.heap.size f (.slice A1 n1 c1) (.slice A2 n2 c2) (.slice A3 n3 c3) (.slice A4 n4 c4) u2):=by show IB _ _ _ _ _ _ u2;rw [←hu2];exact jq9 HX1.o _
   have HY:Hid (IB u1.heap.size {f with pos:=P} (.slice B1 m1 d1) (.slice B2 m2 d2) (.slice B3 m3 d3) (.slice B4 m4 d4) u2):=by show IB _ _ _ _ _ _ u2;rw [←hu2];exact jq5 rfl
   have HB1:Hid (Below w.heap.size w u1):=by show Below _ _ u1;rw [←hu1];exact HBW.o.alloc HBW.o.size _
   have HB2:Hid (Below w.heap.size w u2):=by show Below _ _ u2;rw [←hu2];exact HB1.o.alloc HB1.o.size _
   have HR2u:Hid (u1.rangeAt g2 (o2+j*33) (icells {f with pos:=P} (.slice B1 m1 d1) (.slice B2 m2 d2) (.slice B3 m3 d3) (.slice B4 m4 d4))):=fun i u hi=>by
    have hh:g2<wr.heap.size:=Nat.lt_of_lt_of_le hg2 HBW.o.size
    rw [←hu1,World.cell?_alloc_lt wr _ ⟨g2,_,none⟩ hh]
    exact HR2.o i u hi
   have HU1:=hdd hu1;have HU2:=hdd hu2;clear hu1 hu2 HX1 HB1 HR2
   go_upto_region 8 with (first|(refine wpList_load_mid rfl 57 _ rfl g1 (o1+j*33) rfl (icells f (.slice A1 n1 c1) (.slice A2 n2 c2) (.slice A3 n3 c3) (.slice A4 n4 c4)) _ HR1.o Tryd.underlying57 rfl (jx6 _ _ _ _ _) ?_)|(refine jq4 rfl 57 _ _ rfl rfl (icells f (.slice A1 n1 c1) (.slice A2 n2 c2) (.slice A3 n3 c3) (.slice A4 n4 c4)).toArray rfl info_item (ic1 ..) (by rfl) ?_;rw [HU1.o])|(refine wpList_load_mid rfl 57 _ rfl g2 (o2+j*33) rfl (icells {f with pos:=P} (.slice B1 m1 d1) (.slice B2 m2 d2) (.slice B3 m3 d3) (.slice B4 m4 d4)) _ HR2u.o Tryd.underlying57 rfl (jx6 _ _ _ _ _) ?_)|(refine jq4 rfl 57 _ _ rfl rfl (icells {f with pos:=P} (.slice B1 m1 d1) (.slice B2 m2 d2) (.slice B3 m3 d3) (.slice B4 m4 d4)).toArray rfl info_item (ic1 ..) (by rfl) ?_;rw [HU2.o]))
   have x0:u2.cell? ⟨wr.heap.size,0,none⟩=some (.int .i64 (f.kind:Int)):=jq0 HX.o 0
   have y0:u2.cell? ⟨u1.heap.size,0,none⟩=some (.int .i64 (f.kind:Int)):=jq0 HY.o 0
   have x1:u2.cell? ⟨wr.heap.size,1,none⟩=some (.string ⟨f.name.toArray⟩):=jq0 HX.o 1
   have y1:u2.cell? ⟨u1.heap.size,1,none⟩=some (.string ⟨f.name.toArray⟩):=jq0 HY.o 1
   have x3:u2.cell? ⟨wr.heap.size,3,none⟩=some (.string ⟨f.of_.toArray⟩):=jq0 HX.o 3
   have y3:u2.cell? ⟨u1.heap.size,3,none⟩=some (.string ⟨f.of_.toArray⟩):=jq0 HY.o 3
   have x4:u2.cell? ⟨wr.heap.size,4,none⟩=some (.string ⟨f.act.toArray⟩):=jq0 HX.o 4
   have y4:u2.cell? ⟨u1.heap.size,4,none⟩=some (.string ⟨f.act.toArray⟩):=jq0 HY.o 4
   have x5:u2.cell? ⟨wr.heap.size,5,none⟩=some (.int .i64 (f.word:Int)):=jq0 HX.o 5
   have y5:u2.cell? ⟨u1.heap.size,5,none⟩=some (.int .i64 (f.word:Int)):=jq0 HY.o 5
   have x6:u2.cell? ⟨wr.heap.size,6,none⟩=some (.int .i64 (f.times:Int)):=jq0 HX.o 6
   have y6:u2.cell? ⟨u1.heap.size,6,none⟩=some (.int .i64 (f.times:Int)):=jq0 HY.o 6
   have x7:u2.cell? ⟨wr.heap.size,7,none⟩=some (.int .i64 (f.within.days:Int)):=jq0 HX.o 7
   have y7:u2.cell? ⟨u1.heap.size,7,none⟩=some (.int .i64 (f.within.days:Int)):=jq0 HY.o 7
   have x8:u2.cell? ⟨wr.heap.size,8,none⟩=some (.bool f.within.bus):=jq0 HX.o 8
   have y8:u2.cell? ⟨u1.heap.size,8,none⟩=some (.bool f.within.bus):=jq0 HY.o 8
   have x9:u2.cell? ⟨wr.heap.size,9,none⟩=some (.string ⟨f.within.name.toArray⟩):=jq0 HX.o 9
   have y9:u2.cell? ⟨u1.heap.size,9,none⟩=some (.string ⟨f.within.name.toArray⟩):=jq0 HY.o 9
   have x10:u2.cell? ⟨wr.heap.size,10,none⟩=some (.int .i64 (f.grace.days:Int)):=jq0 HX.o 10
   have y10:u2.cell? ⟨u1.heap.size,10,none⟩=some (.int .i64 (f.grace.days:Int)):=jq0 HY.o 10
   have x11:u2.cell? ⟨wr.heap.size,11,none⟩=some (.bool f.grace.bus):=jq0 HX.o 11
   have y11:u2.cell? ⟨u1.heap.size,11,none⟩=some (.bool f.grace.bus):=jq0 HY.o 11
   have x12:u2.cell? ⟨wr.heap.size,12,none⟩=some (.string ⟨f.grace.name.toArray⟩):=jq0 HX.o 12
   have y12:u2.cell? ⟨u1.heap.size,12,none⟩=some (.string ⟨f.grace.name.toArray⟩):=jq0 HY.o 12
   have x2:u2.cell? ⟨wr.heap.size,2,none⟩=some (.int .i64 (f.pos:Int)):=jq0 HX.o 2
   have y2:u2.cell? ⟨u1.heap.size,2,none⟩=some (.int .i64 (P:Int)):=jq0 HY.o 2
   have hs1:=ne_span (f.within.days:Int) f.within.bus ⟨f.within.name.toArray⟩
   have hs2:=ne_span (f.grace.days:Int) f.grace.bus ⟨f.grace.name.toArray⟩
   clear HU1 HU2 HR1 HR2u
   cases at_
   all_goals as_aux_lemma=>
    try have hpb:=hpb rfl
    go_upto_region 10 with fail
    as_aux_lemma=>
     clear hs1 hs2
     obtain ⟨b0,Hb0⟩: ∃b,Hid (f.days.getD 0 false=b):=⟨_,rfl⟩
     obtain ⟨b1,Hb1⟩: ∃b,Hid (f.days.getD 1 false=b):=⟨_,rfl⟩
     obtain ⟨b2,Hb2⟩: ∃b,Hid (f.days.getD 2 false=b):=⟨_,rfl⟩
     obtain ⟨b3,Hb3⟩: ∃b,Hid (f.days.getD 3 false=b):=⟨_,rfl⟩
     obtain ⟨b4,Hb4⟩: ∃b,Hid (f.days.getD 4 false=b):=⟨_,rfl⟩
     obtain ⟨b5,Hb5⟩: ∃b,Hid (f.days.getD 5 false=b):=⟨_,rfl⟩
     obtain ⟨b6,Hb6⟩: ∃b,Hid (f.days.getD 6 false=b):=⟨_,rfl⟩
     have x14:u2.cell? ⟨wr.heap.size,14,none⟩=some (.string ⟨f.by_.toArray⟩):=jq0 HX.o 14
     have y14:u2.cell? ⟨u1.heap.size,14,none⟩=some (.string ⟨f.by_.toArray⟩):=jq0 HY.o 14
     have x15:u2.cell? ⟨wr.heap.size,15,none⟩=some (.string ⟨f.til.toArray⟩):=jq0 HX.o 15
     have y15:u2.cell? ⟨u1.heap.size,15,none⟩=some (.string ⟨f.til.toArray⟩):=jq0 HY.o 15
     have x16:u2.cell? ⟨wr.heap.size,16,none⟩=some (.int .i64 (f.num.num:Int)):=jq0 HX.o 16
     have y16:u2.cell? ⟨u1.heap.size,16,none⟩=some (.int .i64 (f.num.num:Int)):=jq0 HY.o 16
     have x17:u2.cell? ⟨wr.heap.size,17,none⟩=some (.int .i64 (f.num.den:Int)):=jq0 HX.o 17
     have y17:u2.cell? ⟨u1.heap.size,17,none⟩=some (.int .i64 (f.num.den:Int)):=jq0 HY.o 17
     have x18:u2.cell? ⟨wr.heap.size,18,none⟩=some (.string ⟨f.unit.toArray⟩):=jq0 HX.o 18
     have y18:u2.cell? ⟨u1.heap.size,18,none⟩=some (.string ⟨f.unit.toArray⟩):=jq0 HY.o 18
     have x19:u2.cell? ⟨wr.heap.size,19,none⟩=some (.string ⟨f.sum.toArray⟩):=jq0 HX.o 19
     have y19:u2.cell? ⟨u1.heap.size,19,none⟩=some (.string ⟨f.sum.toArray⟩):=jq0 HY.o 19
     have x20:u2.cell? ⟨wr.heap.size,20,none⟩=some (.bool f.fin):=jq0 HX.o 20
     have y20:u2.cell? ⟨u1.heap.size,20,none⟩=some (.bool f.fin):=jq0 HY.o 20
     have x21:u2.cell? ⟨wr.heap.size,21,none⟩=some (.string ⟨f.give.toArray⟩):=jq0 HX.o 21
     have y21:u2.cell? ⟨u1.heap.size,21,none⟩=some (.string ⟨f.give.toArray⟩):=jq0 HY.o 21
     have x22:u2.cell? ⟨wr.heap.size,22,none⟩=some (.string ⟨f.to_.toArray⟩):=jq0 HX.o 22
     have y22:u2.cell? ⟨u1.heap.size,22,none⟩=some (.string ⟨f.to_.toArray⟩):=jq0 HY.o 22
     have x23:u2.cell? ⟨wr.heap.size,23,none⟩=some (.bool b0):=by rw [←Hb0.o];exact jq0 HX.o 23
     have y23:u2.cell? ⟨u1.heap.size,23,none⟩=some (.bool b0):=by rw [←Hb0.o];exact jq0 HY.o 23
     have x24:u2.cell? ⟨wr.heap.size,24,none⟩=some (.bool b1):=by rw [←Hb1.o];exact jq0 HX.o 24
     have y24:u2.cell? ⟨u1.heap.size,24,none⟩=some (.bool b1):=by rw [←Hb1.o];exact jq0 HY.o 24
     have x25:u2.cell? ⟨wr.heap.size,25,none⟩=some (.bool b2):=by rw [←Hb2.o];exact jq0 HX.o 25
     have y25:u2.cell? ⟨u1.heap.size,25,none⟩=some (.bool b2):=by rw [←Hb2.o];exact jq0 HY.o 25
     have x26:u2.cell? ⟨wr.heap.size,26,none⟩=some (.bool b3):=by rw [←Hb3.o];exact jq0 HX.o 26
     have y26:u2.cell? ⟨u1.heap.size,26,none⟩=some (.bool b3):=by rw [←Hb3.o];exact jq0 HY.o 26
     have x27:u2.cell? ⟨wr.heap.size,27,none⟩=some (.bool b4):=by rw [←Hb4.o];exact jq0 HX.o 27
     have y27:u2.cell? ⟨u1.heap.size,27,none⟩=some (.bool b4):=by rw [←Hb4.o];exact jq0 HY.o 27
     have x28:u2.cell? ⟨wr.heap.size,28,none⟩=some (.bool b5):=by rw [←Hb5.o];exact jq0 HX.o 28
     have y28:u2.cell? ⟨u1.heap.size,28,none⟩=some (.bool b5):=by rw [←Hb5.o];exact jq0 HY.o 28
     have x29:u2.cell? ⟨wr.heap.size,29,none⟩=some (.bool b6):=by rw [←Hb6.o];exact jq0 HX.o 29
     have y29:u2.cell? ⟨u1.heap.size,29,none⟩=some (.bool b6):=by rw [←Hb6.o];exact jq0 HY.o 29
     have hs3:=ne_ratio (f.num.num:Int) (f.num.den:Int)
     have hs4:=ne_days b0 b1 b2 b3 b4 b5 b6
     go_wp2_with (first|(refine jj3 (op:=⟨some 155,_,_,_,_,_⟩) ?hw 57 _ rfl wr.heap.size 0 rfl (icells f (.slice A1 n1 c1) (.slice A2 n2 c2) (.slice A3 n3 c3) (.slice A4 n4 c4)) _ HX.o.range Tryd.underlying57 rfl (jx6 _ _ _ _ _) ?_;(case hw=>rfl))|(refine jj3 (op:=⟨some 156,_,_,_,_,_⟩) ?hw 57 _ rfl u1.heap.size 0 rfl (icells {f with pos:=P} (.slice B1 m1 d1) (.slice B2 m2 d2) (.slice B3 m3 d3) (.slice B4 m4 d4)) _ HY.o.range Tryd.underlying57 rfl (jx6 _ _ _ _ _) ?_;(case hw=>rfl)))
     obtain rfl:=Hb0.o
     obtain rfl:=Hb1.o
     obtain rfl:=Hb2.o
     obtain rfl:=Hb3.o
     obtain rfl:=Hb4.o
     obtain rfl:=Hb5.o
     obtain rfl:=Hb6.o
     refine (lists_true f {f with pos:=P} (.slice A1 n1 c1) (.slice A2 n2 c2) (.slice A3 n3 c3) (.slice A4 n4 c4) (.slice B1 m1 d1) (.slice B2 m2 d2) (.slice B3 m3 d3) (.slice B4 m4 d4) ⟨_,_,_,rfl⟩ ⟨_,_,_,rfl⟩ u2 (HV1.o.below HB2.o) (HV2.o.below HB2.o) rfl rfl rfl).mono ?_
     rintro e w3 ⟨rfl,hb3⟩
     have HB3:Hid (Below w.heap.size w w3):=HB2.o.trans (hb3.mono HB2.o.size)
     have z32:w3.cell? ⟨wr.heap.size,32,none⟩=some (.slice A4 n4 c4):=jq0 ((hb3.block _ (jq7 HX.o)).trans HX.o) 32
     have q32:w3.cell? ⟨u1.heap.size,32,none⟩=some (.slice B4 m4 d4):=jq0 ((hb3.block _ (jq7 HY.o)).trans HY.o) 32
     clear hb3
     as_aux_lemma=>
      go_wp2_with fail
      refine (HCALL.o _ HB3.o).mono ?_
      rintro e w4 ⟨rfl,hb4⟩
      have HB4:Hid (Below w.heap.size w w4):=HB3.o.trans (hb4.mono HB3.o.size)
      clear hb4
      go_wp2_with fail
      go_roundw
      case rel=>exact ⟨j+1,by go_num,by omega,HB4⟩
      case measure=>simp [intOf];omega
  ·go_wp2_with fail
   go_ret
   exact ⟨rfl,HBW.o⟩
end Go.Proofs.YtfaflipphkoiiaaDoor.Pr
