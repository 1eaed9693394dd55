/-
  The reference's number of items, of items of any depth. The law's bounds: short, small and light. A source that is an argument, of bounded bulk. Print of a light source that came in.
-/
import Derived.Test.YtfficindoecpfaaGreatDoorPkPriE
import Derived.Test.YtfficindoecpfaaGreatDoorRows
import Derived.Test.YtfficindoecpfaaGreatDoorPkPriP
set_option maxHeartbeats 64000000
set_option maxRecDepth 100000
set_option linter.unusedVariables false
set_option linter.unusedSimpArgs false
namespace Go.Proofs.YtfficindoecpfaaGreatDoor.Pt
open Go.RowKit Mem Vw
open Ic (RowB DT Lay LayL tsz tsz_lt tsz_nil)
theorem tsz_take {l:List DT} {k:Nat} {x:DT} (h:l[k]?=some x):tsz (l.take (k+1))=tsz (l.take k)+tsz x.l+1:=by
 rw [List.take_add_one,h,Option.toList_some,Ic.tsz_app,Ic.kq0,tsz_nil];omega
theorem tsz_take_le (l:List DT) (k:Nat):tsz (l.take k)≤tsz l:=by
 have h:=Ic.tsz_app (l.take k) (l.drop k)
 rw [List.take_append_drop] at h
 omega
theorem count_any: ∀(n:Nat) (l:List DT) (v:Value) (W:World) (B:Nat→Prop),tsz l≤n→n≤1099511627776→LayL B W l v→
  Calls Tryz.prog 17 #[v] W fun e w'=>e= .returned (.int .i64 (tsz l:Int))∧w'=W:=by
 intro n
 induction n using Nat.strongRecOn with
 |ind n ih=>
 intro l v W B hn hm hL
 have HIH:Hid (∀(y:DT),y∈l→LayL B W y.l y.i→Calls Tryz.prog 17 #[y.i] W fun e w'=>e= .returned (.int .i64 (tsz y.l:Int))∧w'=W):=fun y hy h=>ih (tsz y.l) (Nat.lt_of_lt_of_le (tsz_lt hy) hn) y.l y.i W B (Nat.le_refl _) (Nat.le_trans (Nat.le_of_lt (Nat.lt_of_lt_of_le (tsz_lt hy) hn)) hm) h
 have HT:Hid (tsz l≤1099511627776):=Nat.le_trans hn hm
 clear ih hn hm
 obtain ⟨A,cp,rfl,hc1,hc2⟩:=hL.slice
 have HL:=hdd hL
 clear hL
 have hzl:l.length≤9223372036854775807:=by omega
 go_enter Tryz.func17,Tryz.ntmps17
 go_wp2_with fail
 go_loopw [3,4] (fun nv iv wr=> ∃(k:Nat),iv= .int .i64 k∧k≤l.length∧nv= .int .i64 (tsz (l.take k):Int)∧wr=W) (fun _ i _=>l.length-(intOf i).toNat)
 case atStart=>exact ⟨0,rfl,Nat.zero_le _,rfl,rfl⟩
 case round=>
  obtain ⟨k,rfl,hk,rfl,rfl⟩:=hrel
  have i1:(0:Int)≤(k:Int):=Int.natCast_nonneg _
  by_cases hlt:k<l.length
  ·have i2:(k:Int)<(l.length:Int):=by omega
   obtain ⟨y,hy⟩: ∃y,l[k]?=some y:=⟨_,List.getElem?_eq_getElem hlt⟩
   obtain ⟨g,o,hA,hg,hgB,hat⟩:=HL.o.at hy
   subst hA
   have kc:wr.cell? ⟨g,o+k*33+32,none⟩=some y.i:=hat 32 _ (by rw [DT.cells_eq];rfl)
   have HYM:Hid (y∈l):=List.mem_of_getElem? hy
   have HTK:=hdd (tsz_take hy)
   have HTL:=hdd (tsz_take_le l (k+1))
   have HCA:=hdd (HIH.o y HYM.o (HL.o.lay y HYM.o).items)
   obtain ⟨Ay,cy,hyi,_,_⟩:=(HL.o.lay y HYM.o).items.slice
   rw [hyi] at kc HCA
   have HKK:=hdd hlt
   have j0:(0:Int)≤(tsz (l.take k):Int):=Int.natCast_nonneg _
   have j1:(tsz (l.take k):Int)≤1099511627776:=by have h1:=HTK.o;have h2:=HTL.o;have h3:=HT.o;omega
   have j2:(0:Int)≤(tsz y.l:Int):=Int.natCast_nonneg _
   have j3:(tsz y.l:Int)≤1099511627776:=by have h1:=HTK.o;have h2:=HTL.o;have h3:=HT.o;omega
   clear hat hg hgB hy hyi hlt
   go_wp2_with fail
   refine HCA.o.mono ?_
   rintro e w1 ⟨rfl,rfl⟩
   go_wp2_with fail
   go_roundw
   case rel=>exact ⟨k+1,by go_num,HKK.o,by have:=HTK.o;congr 1;omega,by trivial⟩
   case measure=>have:=HKK.o;simp [intOf];omega
  ·obtain rfl:k=l.length:=by omega
   go_wp2_with fail
   go_ret
   rw [List.take_length]
   exact ⟨rfl,rfl⟩
end Go.Proofs.YtfficindoecpfaaGreatDoor.Pt
namespace Go.Proofs.YtfficindoecpfaaGreatDoor.Pt
open Go.RowKit Mem Vw
open Ic (RowB DT Lay LayL tsz tsz_lt tsz_nil jv9 jv4)
theorem wpList_load_row_g {P:Program} {ops:Array Oper} {rest:List Oper} {op:Oper} {a:Act} {w:World} {Q:Exit→Act→World→Prop} (hw:Region.wanted op (yielded ops a.tmps)=true) (ty:TypeId) (x:Operand) (ho:op.op= .load ty x)
  (b:Nat) (hx:a.eval x= .pointer (some ⟨b,0,none⟩)) (cs:List Value) (t:TypeId) (d:TypeDesc) (hc:w.heap[b]?=some (.cells cs.toArray t (0,0)))
  (hu:P.underlying ty=some d) (hd:d.isRow=true) (hi:(P.info? ty).map (·.size)=some cs.length)
  (h:wpList P ops Q rest (a.put op.dst (.agg cs.toArray)) w):wpList P ops Q (op::rest) a w:=
 wpList_step fun _ hK=>by rw [if_pos hw];exact wp_load_mid ty x ho b 0 hx cs d (At.of_blk hc) hu hd hi (hK _ _ h)
structure Bk1 (h:Rs.Item):Prop where
 name:h.name.length≤1048576
 of_:h.of_.length≤1048576
 act:h.act.length≤1048576
 by_:h.by_.length≤1048576
 til:h.til.length≤1048576
 unit:h.unit.length≤1048576
 sum:h.sum.length≤1048576
 give:h.give.length≤1048576
 to_:h.to_.length≤1048576
 wn:h.within.name.length≤1048576
 gn:h.grace.name.length≤1048576
 conds: ∀c∈h.conds,c.name.length≤1048576
 names: ∀c∈h.names,c.length≤1048576
 lc:h.conds.length≤1048576
 ld:h.dates.length≤1048576
 ln:h.names.length≤1048576
 days:h.days.length=7
theorem Bk1.ok {h:Rs.Item} (b:Bk1 h):Ok h:=by
 obtain ⟨b1,b2,b3,b4,b5,b6,b7,b8,b9,b10,b11,b12,b13,_,_,_,_⟩:=b
 exact ⟨by omega,by omega,by omega,by omega,by omega,by omega,by omega,by omega,by omega,by omega,by omega,fun c hc=>by have:=b12 c hc;omega,fun c hc=>by have:=b13 c hc;omega⟩
inductive Bk:DT→Prop where
 |node (x:DT):Bk1 x.h→x.l.length≤1048576→(∀y∈x.l,Bk y)→Bk x
theorem Bk.one {x:DT} (h:Bk x):Bk1 x.h:=by cases h with|node _ h1 h2 h3=>exact h1
theorem Bk.len {x:DT} (h:Bk x):x.l.length≤1048576:=by cases h with|node _ h1 h2 h3=>exact h2
theorem Bk.inner {x:DT} (h:Bk x): ∀y∈x.l,Bk y:=by cases h with|node _ h1 h2 h3=>exact h3
theorem Bk.fine {x:DT} (h:Bk x):Fine x:=⟨h.one.ok,h.one.days,h.len,h.one.lc,h.one.ld,h.one.ln⟩
structure Sm1 (h:Rs.Item):Prop where
 five:h.name.length+h.of_.length+h.act.length+h.by_.length+h.til.length≤500
 six:h.unit.length+h.sum.length+h.give.length+h.to_.length+h.within.name.length+h.grace.name.length≤500
 lists:h.conds.length+h.dates.length+h.names.length≤60
 conds: ∀c∈h.conds,c.name.length≤100
 names: ∀c∈h.names,c.length≤100
inductive Sm:DT→Prop where
 |node (x:DT):Sm1 x.h→(∀y∈x.l,Sm y)→Sm x
theorem Sm.one {x:DT} (h:Sm x):Sm1 x.h:=by cases h with|node _ h1 h2=>exact h1
theorem Sm.inner {x:DT} (h:Sm x): ∀y∈x.l,Sm y:=by cases h with|node _ h1 h2=>exact h2
theorem short_any (x:DT) (W:World) (hb:Bk1 x.h) (hL:Lay (fun g=>g<W.heap.size) W x):
  Calls Tryz.prog 32 #[.agg x.cells.toArray] W fun e w'=> ∃b:Bool,e= .returned (.bool b)∧(b=true→(∀c∈x.h.conds,c.name.length≤100)∧(∀c∈x.h.names,c.length≤100))∧Fr (fun _=>False) W w':=by
 obtain ⟨w0,hw0⟩: ∃u,W.alloc (.cells x.cells.toArray 49)=u:=⟨_,rfl⟩
 obtain ⟨i,HII⟩: ∃q,Hid (W.heap.size=q):=⟨_,rfl⟩
 have HFA:Hid (Fr (fun _=>False) W w0):=by rw [←hw0];exact (Fr.refl _ W).alloc _
 have HB0:Hid (w0.heap[i]?=some (.cells x.cells.toArray 49 (0,0))):=by rw [←hw0];exact jq2 HII.o.symm
 have HL:=hdd (hL.fr HFA.o (fun _ _ e=>e))
 have HB:=hdd hb
 have HW0:=hdd hw0
 obtain ⟨Ac,cc,hyc,hc1,hc2⟩:=hL.conds.slice
 obtain ⟨An,cn,hyn,hn1,hn2⟩:=hL.names.slice
 rw [List.length_map] at hyc hyn hc1 hn1
 have k13:w0.cell? ⟨i,13,none⟩=some (.slice Ac x.h.conds.length cc):=by rw [jq0 HB0.o,DT.cells_eq,hyc];rfl
 have k31:w0.cell? ⟨i,31,none⟩=some (.slice An x.h.names.length cn):=by rw [jq0 HB0.o,DT.cells_eq,hyn];rfl
 have HYC:=hdd hyc;have HYN:=hdd hyn
 clear hw0 hL hb hyc hyn
 go_enter Tryz.func32,Tryz.ntmps32
 go_upto_region 1 with fail
 rw [HW0.o,HII.o]
 clear HW0
 go_wp2_with fail
 go_loopw [3] (fun iv wr=> ∃k:Nat,iv= .int .i64 k∧k≤x.h.conds.length∧Hid (∀j c,j<k→x.h.conds[j]?=some c→c.name.length≤100)∧wr=w0) (fun i _=>x.h.conds.length-(intOf i).toNat)
 case atStart=>exact ⟨0,rfl,Nat.zero_le _,hdd fun j x h=>absurd h (Nat.not_lt_zero _),rfl⟩
 case round=>
  obtain ⟨k,rfl,hk,HSH,rfl⟩:=hrel
  have i1:(0:Int)≤(k:Int):=Int.natCast_nonneg _
  by_cases hlt:k<x.h.conds.length
  ·have i2:(k:Int)<(x.h.conds.length:Int):=by omega
   obtain ⟨y,hy⟩: ∃y,x.h.conds[k]?=some y:=⟨_,List.getElem?_eq_getElem hlt⟩
   have hr:=HL.o.conds
   rw [HYC.o] at hr
   obtain ⟨g,o,hA,hg,hgB,hat⟩:=hr.at (k:=k) (x:=Rs.namedc y) (by rw [List.getElem?_map,hy];rfl)
   subst hA
   have kc:wr.cell? ⟨g,o+k*2,none⟩=some (.string ⟨y.name.toArray⟩):=hat 0 _ rfl
   have HKK:=hdd hlt
   have HY:=hdd hy
   have j1:(0:Int)≤(y.name.length:Int):=Int.natCast_nonneg _
   have j2:=HB.o.conds y (List.mem_of_getElem? hy)
   clear hat hg hgB hy hlt hr
   by_cases q:100<y.name.length
   ·go_wp2_with fail
    go_ret
    first|exact ⟨false,rfl,fun h=>absurd h (by simp),HFA.o⟩|exact .inl ⟨rfl,HFA.o⟩|exact ⟨rfl,HFA.o⟩
   have HN:Hid (∀j c,j<k+1→x.h.conds[j]?=some c→c.name.length≤100):=fun j c hj hx=>by
    by_cases hjk:j=k
    ·subst hjk
     obtain rfl:c=y:=Option.some.inj (hx.symm.trans HY.o)
     omega
    ·exact HSH.o j c (by omega) hx
   go_wp2_with fail
   go_roundw
   case rel=>exact ⟨k+1,by go_num,HKK.o,HN,by trivial⟩
   case measure=>have:=HKK.o;simp [intOf];omega
  ·obtain rfl:k=x.h.conds.length:=by omega
   have HC:Hid (∀c∈x.h.conds,c.name.length≤100):=fun c hc=>by
    obtain ⟨j,hj⟩:=List.mem_iff_getElem?.1 hc
    exact HSH.o j c (List.getElem?_eq_some_iff.1 hj).1 hj
   clear HSH
   go_wp2_with fail
   go_loopw [4] (fun iv wz=> ∃k:Nat,iv= .int .i64 k∧k≤x.h.names.length∧Hid (∀j c,j<k→x.h.names[j]?=some c→c.length≤100)∧wz=wr) (fun i _=>x.h.names.length-(intOf i).toNat)
   case atStart=>exact ⟨0,rfl,Nat.zero_le _,hdd fun j x h=>absurd h (Nat.not_lt_zero _),rfl⟩
   case round=>
    obtain ⟨k,rfl,hk,HSH,rfl⟩:=hrel
    have i1:(0:Int)≤(k:Int):=Int.natCast_nonneg _
    by_cases hlt:k<x.h.names.length
    ·have i2:(k:Int)<(x.h.names.length:Int):=by omega
     obtain ⟨y,hy⟩: ∃y,x.h.names[k]?=some y:=⟨_,List.getElem?_eq_getElem hlt⟩
     have hr:=HL.o.names
     rw [HYN.o] at hr
     obtain ⟨g,o,hA,hg,hgB,hat⟩:=hr.at (k:=k) (x:= [Rs.sv y]) (by rw [List.getElem?_map,hy];rfl)
     subst hA
     have kc:wr.cell? ⟨g,o+k,none⟩=some (.string ⟨y.toArray⟩):=by have:=hat 0 _ rfl;rwa [Nat.mul_one] at this
     have HKK:=hdd hlt
     have HY:=hdd hy
     have j1:(0:Int)≤(y.length:Int):=Int.natCast_nonneg _
     have j2:=HB.o.names y (List.mem_of_getElem? hy)
     clear hat hg hgB hy hlt hr
     by_cases q:100<y.length
     ·go_wp2_with fail
      go_ret
      first|exact ⟨false,rfl,fun h=>absurd h (by simp),HFA.o⟩|exact .inl ⟨rfl,HFA.o⟩|exact ⟨rfl,HFA.o⟩
     have HN:Hid (∀j c,j<k+1→x.h.names[j]?=some c→c.length≤100):=fun j c hj hx=>by
      by_cases hjk:j=k
      ·subst hjk
       obtain rfl:c=y:=Option.some.inj (hx.symm.trans HY.o)
       omega
      ·exact HSH.o j c (by omega) hx
     go_wp2_with fail
     go_roundw
     case rel=>exact ⟨k+1,by go_num,HKK.o,HN,by trivial⟩
     case measure=>have:=HKK.o;simp [intOf];omega
    ·obtain rfl:k=x.h.names.length:=by omega
     go_wp2_with fail
     go_ret
     refine ⟨true,rfl,fun _=>⟨HC.o,fun c hc=>?_⟩,HFA.o⟩
     obtain ⟨j,hj⟩:=List.mem_iff_getElem?.1 hc
     exact HSH.o j c (List.getElem?_eq_some_iff.1 hj).1 hj
theorem small_any: ∀(n:Nat) (l:List DT) (v:Value) (W:World),tsz l≤n→(∀x∈l,Bk x)→LayL (fun g=>g<W.heap.size) W l v→
  Calls Tryz.prog 18 #[v] W fun e w'=> ∃b:Bool,e= .returned (.bool b)∧(b=true→ ∀x∈l,Sm x)∧Fr (fun _=>False) W w':=by
 intro n
 induction n using Nat.strongRecOn with
 |ind n ih=>
 intro l v W hn hbk hL
 have HIH:Hid (∀(y:DT) (w:World),y∈l→LayL (fun g=>g<w.heap.size) w y.l y.i→Calls Tryz.prog 18 #[y.i] w fun e w'=> ∃b:Bool,e= .returned (.bool b)∧(b=true→ ∀x∈y.l,Sm x)∧Fr (fun _=>False) w w'):=fun y w hy h=>ih (tsz y.l) (Nat.lt_of_lt_of_le (tsz_lt hy) hn) y.l y.i w (Nat.le_refl _) (hbk y hy).inner h
 have HBK:=hdd hbk
 clear ih hn hbk
 obtain ⟨A,cp,rfl,hc1,hc2⟩:=hL.slice
 have HL:=hdd hL
 clear hL
 have hzl:l.length≤9223372036854775807:=by omega
 go_enter Tryz.func18,Tryz.ntmps18
 go_wp2_with fail
 go_loopw [3] (fun iv wr=> ∃k:Nat,iv= .int .i64 k∧k≤l.length∧Hid (∀j x,j<k→l[j]?=some x→Sm x)∧Hid (Fr (fun _=>False) W wr)) (fun i _=>l.length-(intOf i).toNat)
 case atStart=>exact ⟨0,rfl,Nat.zero_le _,hdd fun j x h=>absurd h (Nat.not_lt_zero _),Fr.refl _ _⟩
 case round=>
  obtain ⟨k,rfl,hk,HSH,HF⟩:=hrel
  have i1:(0:Int)≤(k:Int):=Int.natCast_nonneg _
  by_cases hlt:k<l.length
  ·have i2:(k:Int)<(l.length:Int):=by omega
   obtain ⟨y,hy⟩: ∃y,l[k]?=some y:=⟨_,List.getElem?_eq_getElem hlt⟩
   have HLr:Hid (LayL (fun g=>g<W.heap.size) wr l (.slice A l.length cp)):=HL.o.fr HF.o (fun _ _ h=>h)
   obtain ⟨g,o,hA,hg,hgB,hat⟩:=HLr.o.at hy
   subst hA
   have HAT:=hdd hat
   have HLY:Hid (Lay (fun g=>g<W.heap.size) wr y):=HLr.o.lay y (List.mem_of_getElem? hy)
   have HYM:Hid (y∈l):=List.mem_of_getElem? hy
   have HBY:Hid (Bk y):=HBK.o y HYM.o
   have HY:=hdd hy
   have HKK:=hdd hlt
   clear hat hg hgB hy hlt HLr
   go_upto_region 4 with fail
   iterate 10 go_step
   refine wpList_load_mid rfl 49 _ rfl g (o+k*33) rfl y.cells _ HAT.o Tryz.underlying49 rfl (jv4 y) ?_
   simp only [Act.put,List.setIfInBounds_toArray,List.set_cons_zero,List.set_cons_succ]
   iterate 3 go_step
   refine wpList_store_row rfl 49 _ _ rfl wr.heap.size y.cells.toArray rfl rfl 49 _ (jq2 rfl) (jv9 y) (cells_size y).symm HLY.o.one ?_
   simp only [Act.put,List.setIfInBounds_toArray,List.set_cons_zero,List.set_cons_succ]
   rw [World.setRow_alloc_new]
   obtain ⟨u,hu⟩: ∃u,wr.alloc (.cells y.cells.toArray 49)=u:=⟨_,rfl⟩
   obtain ⟨gi,HGI⟩: ∃q,Hid (wr.heap.size=q):=⟨_,rfl⟩
   rw [hu,HGI.o]
   have HGB:Hid (u.heap[gi]?=some (.cells y.cells.toArray 49 (0,0))):=by rw [←hu];exact jq2 HGI.o.symm
   have HFU:Hid (Fr (fun _=>False) wr u):=by rw [←hu];exact (Fr.refl _ wr).alloc _
   have HFW:Hid (Fr (fun _=>False) W u):=HF.o.trans HFU.o
   clear hu HAT
   have k1:u.cell? ⟨gi,1,none⟩=some (.string ⟨y.h.name.toArray⟩):=by rw [jq0 HGB.o,DT.cells_eq];rfl
   have p1:(0:Int)≤(y.h.name.length:Int):=Int.natCast_nonneg _
   have r1:(y.h.name.length:Int)≤1048576:=by have:=HBY.o.one.name;omega
   have k3:u.cell? ⟨gi,3,none⟩=some (.string ⟨y.h.of_.toArray⟩):=by rw [jq0 HGB.o,DT.cells_eq];rfl
   have p3:(0:Int)≤(y.h.of_.length:Int):=Int.natCast_nonneg _
   have r3:(y.h.of_.length:Int)≤1048576:=by have:=HBY.o.one.of_;omega
   have k4:u.cell? ⟨gi,4,none⟩=some (.string ⟨y.h.act.toArray⟩):=by rw [jq0 HGB.o,DT.cells_eq];rfl
   have p4:(0:Int)≤(y.h.act.length:Int):=Int.natCast_nonneg _
   have r4:(y.h.act.length:Int)≤1048576:=by have:=HBY.o.one.act;omega
   have k14:u.cell? ⟨gi,14,none⟩=some (.string ⟨y.h.by_.toArray⟩):=by rw [jq0 HGB.o,DT.cells_eq];rfl
   have p14:(0:Int)≤(y.h.by_.length:Int):=Int.natCast_nonneg _
   have r14:(y.h.by_.length:Int)≤1048576:=by have:=HBY.o.one.by_;omega
   have k15:u.cell? ⟨gi,15,none⟩=some (.string ⟨y.h.til.toArray⟩):=by rw [jq0 HGB.o,DT.cells_eq];rfl
   have p15:(0:Int)≤(y.h.til.length:Int):=Int.natCast_nonneg _
   have r15:(y.h.til.length:Int)≤1048576:=by have:=HBY.o.one.til;omega
   have k18:u.cell? ⟨gi,18,none⟩=some (.string ⟨y.h.unit.toArray⟩):=by rw [jq0 HGB.o,DT.cells_eq];rfl
   have p18:(0:Int)≤(y.h.unit.length:Int):=Int.natCast_nonneg _
   have r18:(y.h.unit.length:Int)≤1048576:=by have:=HBY.o.one.unit;omega
   have k19:u.cell? ⟨gi,19,none⟩=some (.string ⟨y.h.sum.toArray⟩):=by rw [jq0 HGB.o,DT.cells_eq];rfl
   have p19:(0:Int)≤(y.h.sum.length:Int):=Int.natCast_nonneg _
   have r19:(y.h.sum.length:Int)≤1048576:=by have:=HBY.o.one.sum;omega
   have k21:u.cell? ⟨gi,21,none⟩=some (.string ⟨y.h.give.toArray⟩):=by rw [jq0 HGB.o,DT.cells_eq];rfl
   have p21:(0:Int)≤(y.h.give.length:Int):=Int.natCast_nonneg _
   have r21:(y.h.give.length:Int)≤1048576:=by have:=HBY.o.one.give;omega
   have k22:u.cell? ⟨gi,22,none⟩=some (.string ⟨y.h.to_.toArray⟩):=by rw [jq0 HGB.o,DT.cells_eq];rfl
   have p22:(0:Int)≤(y.h.to_.length:Int):=Int.natCast_nonneg _
   have r22:(y.h.to_.length:Int)≤1048576:=by have:=HBY.o.one.to_;omega
   have k9:u.cell? ⟨gi,9,none⟩=some (.string ⟨y.h.within.name.toArray⟩):=by rw [jq0 HGB.o,DT.cells_eq];rfl
   have p9:(0:Int)≤(y.h.within.name.length:Int):=Int.natCast_nonneg _
   have r9:(y.h.within.name.length:Int)≤1048576:=by have:=HBY.o.one.wn;omega
   have k12:u.cell? ⟨gi,12,none⟩=some (.string ⟨y.h.grace.name.toArray⟩):=by rw [jq0 HGB.o,DT.cells_eq];rfl
   have p12:(0:Int)≤(y.h.grace.name.length:Int):=Int.natCast_nonneg _
   have r12:(y.h.grace.name.length:Int)≤1048576:=by have:=HBY.o.one.gn;omega
   by_cases q1:500<y.h.name.length+y.h.of_.length+y.h.act.length+y.h.by_.length+y.h.til.length
   ·have pA:(500:Int)<(y.h.name.length:Int)+y.h.of_.length+y.h.act.length+y.h.by_.length+y.h.til.length:=by omega
    have dA:decide ((500:Int)<(y.h.name.length:Int)+y.h.of_.length+y.h.act.length+y.h.by_.length+y.h.til.length)=true:=decide_eq_true pA
    go_wp2_with fail
    go_ret
    first|exact ⟨false,rfl,fun h=>absurd h (by simp),HFW.o⟩|exact .inl ⟨rfl,HFW.o⟩|exact ⟨rfl,HFW.o⟩
   have pA: ¬(500:Int)<(y.h.name.length:Int)+y.h.of_.length+y.h.act.length+y.h.by_.length+y.h.til.length:=by omega
   have dA:decide ((500:Int)<(y.h.name.length:Int)+y.h.of_.length+y.h.act.length+y.h.by_.length+y.h.til.length)=false:=decide_eq_false pA
   by_cases q2:500<y.h.unit.length+y.h.sum.length+y.h.give.length+y.h.to_.length+y.h.within.name.length+y.h.grace.name.length
   ·have pB:(500:Int)<(y.h.unit.length:Int)+y.h.sum.length+y.h.give.length+y.h.to_.length+y.h.within.name.length+y.h.grace.name.length:=by omega
    have dB:decide ((500:Int)<(y.h.unit.length:Int)+y.h.sum.length+y.h.give.length+y.h.to_.length+y.h.within.name.length+y.h.grace.name.length)=true:=decide_eq_true pB
    go_wp2_with fail
    go_ret
    first|exact ⟨false,rfl,fun h=>absurd h (by simp),HFW.o⟩|exact .inl ⟨rfl,HFW.o⟩|exact ⟨rfl,HFW.o⟩
   have pB: ¬(500:Int)<(y.h.unit.length:Int)+y.h.sum.length+y.h.give.length+y.h.to_.length+y.h.within.name.length+y.h.grace.name.length:=by omega
   have dB:decide ((500:Int)<(y.h.unit.length:Int)+y.h.sum.length+y.h.give.length+y.h.to_.length+y.h.within.name.length+y.h.grace.name.length)=false:=decide_eq_false pB
   go_upto_region 7 with fail
   clear k1 p1 r1 k3 p3 r3 k4 p4 r4 k14 p14 r14 k15 p15 r15 k18 p18 r18 k19 p19 r19 k21 p21 r21 k22 p22 r22 k9 p9 r9 k12 p12 r12 pA dA pB dB
   obtain ⟨Ay,cy,hyi,hi1,hi2⟩:=HLY.o.items.slice
   obtain ⟨An,cn,hyn,hn1,hn2⟩:=HLY.o.names.slice
   obtain ⟨Ac,cc,hyc,hc1',hc2'⟩:=HLY.o.conds.slice
   obtain ⟨Ad,cd,hyd,hd1,hd2⟩:=HLY.o.dates.slice
   rw [List.length_map] at hyn hyc hyd hn1 hc1' hd1
   have k32:u.cell? ⟨gi,32,none⟩=some (.slice Ay y.l.length cy):=by rw [jq0 HGB.o,DT.cells_eq,hyi];rfl
   have k31:u.cell? ⟨gi,31,none⟩=some (.slice An y.h.names.length cn):=by rw [jq0 HGB.o,DT.cells_eq,hyn];rfl
   have k30:u.cell? ⟨gi,30,none⟩=some (.slice Ad y.h.dates.length cd):=by rw [jq0 HGB.o,DT.cells_eq,hyd];rfl
   have k13:u.cell? ⟨gi,13,none⟩=some (.slice Ac y.h.conds.length cc):=by rw [jq0 HGB.o,DT.cells_eq,hyc];rfl
   have l1:=HBY.o.one.lc;have l2:=HBY.o.one.ld;have l3:=HBY.o.one.ln
   have m1:(0:Int)≤(y.h.conds.length:Int):=Int.natCast_nonneg _
   have m2:(0:Int)≤(y.h.dates.length:Int):=Int.natCast_nonneg _
   have m3:(0:Int)≤(y.h.names.length:Int):=Int.natCast_nonneg _
   have HYI:=hdd hyi
   clear hyi hyn hyc hyd
   by_cases q3:60<y.h.conds.length+y.h.dates.length+y.h.names.length
   ·have pC:(60:Int)<(y.h.conds.length:Int)+y.h.dates.length+y.h.names.length:=by omega
    have dC:decide ((60:Int)<(y.h.conds.length:Int)+y.h.dates.length+y.h.names.length)=true:=decide_eq_true pC
    go_wp2_with fail
    go_ret
    first|exact ⟨false,rfl,fun h=>absurd h (by simp),HFW.o⟩|exact .inl ⟨rfl,HFW.o⟩|exact ⟨rfl,HFW.o⟩
   have pC: ¬(60:Int)<(y.h.conds.length:Int)+y.h.dates.length+y.h.names.length:=by omega
   have dC:decide ((60:Int)<(y.h.conds.length:Int)+y.h.dates.length+y.h.names.length)=false:=decide_eq_false pC
   have hsh:=short_any y u HBY.o.one ((HLY.o.fr HFU.o (fun _ _ h=>h)).mono (fun g hg _=>hg))
   have HSA:=hdd hsh
   clear hsh
   go_wp2_with (refine wpList_load_row_g (op:=⟨some 76,_,_,_,_,_⟩) ?hw 49 _ rfl gi rfl y.cells _ _ HGB.o Tryz.underlying49 rfl (jv4 y) ?_;(case hw=>rfl))
   refine HSA.o.mono ?_
   rintro e w2 ⟨b,rfl,hsb,hf⟩
   have HFS:Hid (Fr (fun _=>False) u w2):=hf
   have HSB:=hdd hsb
   clear hf hsb HSA
   have HFV:Hid (Fr (fun _=>False) W w2):=HFW.o.trans HFS.o
   have HGB2:Hid (w2.heap[gi]?=some (.cells y.cells.toArray 49 (0,0))):=HFS.o.blk HGB.o (fun e=>e)
   clear k13 k30 k31
   cases b with
   |false=>
    go_wp2_with fail
    go_ret
    first|exact ⟨false,rfl,fun h=>absurd h (by simp),HFV.o⟩|exact .inl ⟨rfl,HFV.o⟩|exact ⟨rfl,HFV.o⟩
   |true=>
    have c32:w2.cell? ⟨gi,32,none⟩=some (.slice Ay y.l.length cy):=by rw [jq0 HGB2.o,DT.cells_eq,HYI.o];rfl
    have hca:=HIH.o y w2 HYM.o (((HLY.o.items.fr HFU.o (fun _ _ h=>h)).fr HFS.o (fun _ _ h=>h)).mono (fun g hg _=>hg))
    rw [HYI.o] at hca
    have HCA:=hdd hca
    clear hca k32
    go_wp2_with fail
    refine HCA.o.mono ?_
    rintro e w3 ⟨b,rfl,hsb,hf⟩
    have HF3:Hid (Fr (fun _=>False) W w3):=HFV.o.trans hf
    have HSC:=hdd hsb
    clear hf hsb HCA c32
    cases b with
    |false=>
     go_wp2_with fail
     go_ret
     first|exact ⟨false,rfl,fun h=>absurd h (by simp),HF3.o⟩|exact .inl ⟨rfl,HF3.o⟩|exact ⟨rfl,HF3.o⟩
    |true=>
     have HN:Hid (∀j x,j<k+1→l[j]?=some x→Sm x):=fun j x hj hx=>by
      by_cases hjk:j=k
      ·subst hjk
       obtain rfl:x=y:=Option.some.inj (hx.symm.trans HY.o)
       have hs:=HSB.o (by trivial)
       exact .node x ⟨by omega,by omega,by omega,hs.1,hs.2⟩ (HSC.o (by trivial))
      ·exact HSH.o j x (by omega) hx
     go_wp2_with fail
     go_roundw
     case rel=>exact ⟨k+1,by go_num,HKK.o,HN,HF3⟩
     case measure=>have:=HKK.o;simp [intOf];omega
  ·obtain rfl:k=l.length:=by omega
   go_wp2_with fail
   go_ret
   refine ⟨true,rfl,fun _ x hx=>?_,HF.o⟩
   obtain ⟨j,hj⟩:=List.mem_iff_getElem?.1 hx
   exact HSH.o j x (List.getElem?_eq_some_iff.1 hj).1 hj
structure Light (x:Ic.Src) (l:List DT):Prop where
 name:x.name.length≤100
 size:tsz l≤700
 sm: ∀y∈l,Sm y
theorem light_any {W:World} {x:Ic.Src} {l:List DT} {iv:Value} (hL:LayL (fun g=>g<W.heap.size) W l iv) (hb: ∀y∈l,Bk y) (hz:tsz l≤1099511627776) (hn:x.name.length≤1048576):
  Calls Tryz.prog 10 #[.agg (Rs.scells x.name x.frm x.days iv).toArray] W fun e w'=> ∃b:Bool,e= .returned (.bool b)∧(b=true→Light x l)∧Fr (fun _=>False) W w':=by
 obtain ⟨A,cap,hiv,_,_⟩:=hL.slice
 subst hiv
 obtain ⟨w0,hw0⟩: ∃u,W.alloc (.cells (Rs.scells x.name x.frm x.days (.slice A l.length cap)).toArray 26)=u:=⟨_,rfl⟩
 obtain ⟨i,HII⟩: ∃q,Hid (W.heap.size=q):=⟨_,rfl⟩
 have HFA:Hid (Fr (fun _=>False) W w0):=by rw [←hw0];exact (Fr.refl _ W).alloc _
 have HB0:Hid (w0.heap[i]?=some (.cells (Rs.scells x.name x.frm x.days (.slice A l.length cap)).toArray 26 (0,0))):=by rw [←hw0];exact jq2 HII.o.symm
 have HL:Hid (LayL (fun g=>g<w0.heap.size) w0 l (.slice A l.length cap)):=(hL.fr HFA.o (fun _ _ e=>e)).mono (fun q hq _=>hq)
 have HB:=hdd hb
 have HW0:=hdd hw0
 have HC:=hdd (count_any (tsz l) l _ w0 _ (Nat.le_refl _) hz HL.o)
 have HS:=hdd (small_any (tsz l) l _ w0 (Nat.le_refl _) hb HL.o)
 have k0:w0.cell? ⟨i,0,none⟩=some (.string ⟨x.name.toArray⟩):=jq0 HB0.o 0
 have k5:w0.cell? ⟨i,5,none⟩=some (.slice A l.length cap):=jq0 HB0.o 5
 have j1:(0:Int)≤(x.name.length:Int):=Int.natCast_nonneg _
 have j2:(0:Int)≤(tsz l:Int):=Int.natCast_nonneg _
 clear hw0 hL hb
 go_enter Tryz.func10,Tryz.ntmps10
 go_upto_region 1 with fail
 rw [HW0.o,HII.o]
 clear HW0
 by_cases q1:x.name.length≤100
 case neg=>
  have q2: ¬(x.name.length:Int)≤100:=by omega
  have d2:decide ((x.name.length:Int)≤100)=false:=decide_eq_false q2
  go_wp2_with fail
  go_ret
  first|exact ⟨false,rfl,fun h=>absurd h (by simp),HFA.o⟩|exact .inl ⟨rfl,HFA.o⟩|exact ⟨rfl,HFA.o⟩
 have q2:(x.name.length:Int)≤100:=by omega
 have d2:decide ((x.name.length:Int)≤100)=true:=decide_eq_true q2
 go_wp2_with fail
 refine HC.o.mono ?_
 rintro e w1 ⟨rfl,rfl⟩
 clear HC
 by_cases q3:tsz l≤700
 case neg=>
  have q4: ¬(tsz l:Int)≤700:=by omega
  have d4:decide ((tsz l:Int)≤700)=false:=decide_eq_false q4
  go_wp2_with fail
  go_ret
  first|exact ⟨false,rfl,fun h=>absurd h (by simp),HFA.o⟩|exact .inl ⟨rfl,HFA.o⟩|exact ⟨rfl,HFA.o⟩
 have q4:(tsz l:Int)≤700:=by omega
 have d4:decide ((tsz l:Int)≤700)=true:=decide_eq_true q4
 go_wp2_with fail
 refine HS.o.mono ?_
 rintro e w2 ⟨b,rfl,hs,hf⟩
 have HF2:Hid (Fr (fun _=>False) W w2):=HFA.o.trans hf
 have HSB:=hdd hs
 clear hf hs HS
 go_wp2_with fail
 go_ret
 exact ⟨b,rfl,fun h=>⟨q1,q3,HSB.o h⟩,HF2.o⟩
end Go.Proofs.YtfficindoecpfaaGreatDoor.Pt
namespace Go.Proofs.YtfficindoecpfaaGreatDoor.Pt
open Go.ChangeShapes Go.WideShapes Go.RowKit Mem Vw
open Ic (RowB DT Lay LayL tsz All)
section
variable {H:Type} {enc:TypeId×Value→H} {W:World} {base:Nat} {spare:Nat→Bool} {held:Bool}
theorem bulk_pos (d:DataW H):1≤Rows.uptoBulk d:=by
 cases d with
 |lit l=>cases l<;>simp [Rows.uptoBulk]
 |_=>simp [Rows.uptoBulk]
theorem bulk_part {d:DataW H} {l:List (DataW H)} (h:d∈l):Rows.uptoBulk d≤Rows.uptoBulkAll l:=by
 induction l with
 |nil=>cases h
 |cons x r ih=>
  rw [Rows.uptoBulkAll]
  rcases List.mem_cons.1 h with rfl|h
  ·omega
  ·have:=ih h;omega
theorem bulk_len (l:List (DataW H)):l.length≤Rows.uptoBulkAll l:=by
 induction l with
 |nil=>simp
 |cons x r ih=>rw [Rows.uptoBulkAll,List.length_cons];have:=bulk_pos x;omega
theorem jv0 {n:Nat} {t:TypeId} {fs:Array Field} {cs:List Value} {y:DataW H×List MemPlace} (ht:Tryz.prog.underlying t=some (.struct fs)) (h:DataW.trod enc Tryz.prog W base spare held n t cs=some y) (i:Nat) (f:Field) (s:Nat) (hi:fs[i]?=some f) (hs:Tryz.prog.cellsOf f.type=s):
  ∃m z,m<n∧DataW.trod enc Tryz.prog W base spare held m f.type ((cs.drop f.offset).take s)=some z∧Rows.uptoBulk z.1+1≤Rows.uptoBulk y.1:=by
 obtain ⟨xs,m,hnm,rfl,_,hx,hf⟩:=DataW.trod_struct ht h
 subst hs
 have hi2:i<xs.length:=by rw [hx];exact (Array.getElem?_eq_some_iff.1 hi).1
 refine ⟨m,xs[i],by omega,by rw [hf i f hi,List.getElem?_eq_getElem hi2],?_⟩
 have h1:xs[i].1∈xs.map (·.1):=List.mem_map_of_mem (List.getElem_mem hi2)
 have h2:=bulk_part h1
 rw [Rows.uptoBulk]
 omega
theorem jk0 {n:Nat} {t:TypeId} {x:Rs.Bytes} {y:DataW H×List MemPlace} (ht:Tryz.prog.underlying t=some .string) (h:DataW.trod enc Tryz.prog W base spare held n t [.string ⟨x.toArray⟩]=some y):x.length+1=Rows.uptoBulk y.1:=by
 obtain ⟨s,e,rfl,_⟩:=DataW.trod_string ht h
 injection e with e _
 injection e with e
 subst e
 show x.length+1=Rows.uptoBulk (DataW.lit (.string x))
 rw [Rows.uptoBulk]
theorem bk_elems {n:Nat} {t e:TypeId} {v:Value} {z:Nat} {xs:List (List Value)} {y:DataW H×List MemPlace} (ht:Tryz.prog.underlying t=some (.slice e)) (hC:Tryz.prog.cellsOf e=z) (hr:Row W v z xs) (h:DataW.trod enc Tryz.prog W base spare held n t [v]=some y) (hl: ∀x∈xs,x.length=z):
  ∃ds:List (DataW H),ds.length=xs.length∧Rows.uptoBulkAll ds+1≤Rows.uptoBulk y.1∧ ∀(i:Nat) x d,xs[i]?=some x→ds[i]?=some d→ ∃m pl,m<n∧DataW.trod enc Tryz.prog W base spare held m e x=some (d,pl):=by
 by_cases hne:xs= []
 ·subst hne
  exact ⟨[],rfl,by rw [Rows.uptoBulkAll];exact bulk_pos _,fun i x d hx=>by cases hx⟩
 obtain ⟨g,o,cap,rfl,_,_,_,hat⟩:=hr.at hne
 rcases DataW.trod_slice ht h with ⟨hcs,_⟩|⟨a,len,cap',elems,rest,m,hnm,hcs,rfl,_,_,_,hlen,hel,_,_⟩
 ·injection hcs with hcs _
  injection hcs with h1 _ _
  cases h1
 ·injection hcs with hcs _
  injection hcs with h1 h2 _
  injection h1 with h1
  subst h1
  rw [hC] at hel
  refine ⟨elems.map (·.1),by rw [List.length_map,hlen,h2],by rw [Rows.uptoBulk];omega,fun i x d hx hd=>?_⟩
  have hil:i<xs.length:=(List.getElem?_eq_some_iff.1 hx).1
  have h1:=hel i (by omega)
  have hi2:i<elems.length:=by omega
  rw [List.getElem?_eq_getElem hi2,Option.bind_eq_some_iff] at h1
  obtain ⟨cs,hc2,hc3⟩:=h1
  obtain ⟨h4,h5⟩:=cells_at hc2
  have hxl:=hl x (List.mem_of_getElem? hx)
  have hcx:cs=x:=by
   apply List.ext_getElem?
   intro j
   by_cases hj:j<z
   ·have e1:cs[j]?=some cs[j]:=List.getElem?_eq_getElem (by omega)
    have e2:x[j]?=some x[j]:=List.getElem?_eq_getElem (by omega)
    have k1:=h5 j _ e1
    have k2:=hat i x hx j _ e2
    rw [add_plain,add_plain,k2] at k1
    rw [e1,e2]
    exact k1.symm
   ·rw [List.getElem?_eq_none (by omega),List.getElem?_eq_none (by omega)]
  subst hcx
  rw [List.getElem?_map,List.getElem?_eq_getElem hi2] at hd
  injection hd with hd
  subst hd
  exact ⟨m,_,by omega,hc3⟩
theorem bk_item {n:Nat} {p:Rs.Item×Rs.Sl} {y:DataW H×List MemPlace} (h:DataW.trod enc Tryz.prog W base spare held n 49 (Rs.ic p)=some y) (ho:Rs.ItemOk p.1) (hf:Rs.Flat W p.1 p.2.1 p.2.2.1 p.2.2.2.1) (hB:Rows.uptoBulk y.1≤1048576):Bk1 p.1:=by
 have h1:p.1.name.length≤1048576:=by
  obtain ⟨m,z,_,k1,k2⟩:=jv0 Tryz.underlying49 h 1 _ 1 rfl Rs.sizestring
  have:=jk0 Tryz.underlying9 k1
  omega
 have h3:p.1.of_.length≤1048576:=by
  obtain ⟨m,z,_,k1,k2⟩:=jv0 Tryz.underlying49 h 3 _ 1 rfl Rs.sizestring
  have:=jk0 Tryz.underlying9 k1
  omega
 have h4:p.1.act.length≤1048576:=by
  obtain ⟨m,z,_,k1,k2⟩:=jv0 Tryz.underlying49 h 4 _ 1 rfl Rs.sizestring
  have:=jk0 Tryz.underlying9 k1
  omega
 have h10:p.1.by_.length≤1048576:=by
  obtain ⟨m,z,_,k1,k2⟩:=jv0 Tryz.underlying49 h 10 _ 1 rfl Rs.sizestring
  have:=jk0 Tryz.underlying9 k1
  omega
 have h11:p.1.til.length≤1048576:=by
  obtain ⟨m,z,_,k1,k2⟩:=jv0 Tryz.underlying49 h 11 _ 1 rfl Rs.sizestring
  have:=jk0 Tryz.underlying9 k1
  omega
 have h13:p.1.unit.length≤1048576:=by
  obtain ⟨m,z,_,k1,k2⟩:=jv0 Tryz.underlying49 h 13 _ 1 rfl Rs.sizestring
  have:=jk0 Tryz.underlying9 k1
  omega
 have h14:p.1.sum.length≤1048576:=by
  obtain ⟨m,z,_,k1,k2⟩:=jv0 Tryz.underlying49 h 14 _ 1 rfl Rs.sizestring
  have:=jk0 Tryz.underlying9 k1
  omega
 have h16:p.1.give.length≤1048576:=by
  obtain ⟨m,z,_,k1,k2⟩:=jv0 Tryz.underlying49 h 16 _ 1 rfl Rs.sizestring
  have:=jk0 Tryz.underlying9 k1
  omega
 have h17:p.1.to_.length≤1048576:=by
  obtain ⟨m,z,_,k1,k2⟩:=jv0 Tryz.underlying49 h 17 _ 1 rfl Rs.sizestring
  have:=jk0 Tryz.underlying9 k1
  omega
 have h7:p.1.within.name.length≤1048576:=by
  obtain ⟨m,z,_,k1,k2⟩:=jv0 Tryz.underlying49 h 7 _ 3 rfl (by kernel_rfl)
  obtain ⟨m2,z2,_,k3,k4⟩:=jv0 Tryz.underlying41 k1 2 _ 1 rfl Rs.sizestring
  have:=jk0 Tryz.underlying9 k3
  omega
 have h8:p.1.grace.name.length≤1048576:=by
  obtain ⟨m,z,_,k1,k2⟩:=jv0 Tryz.underlying49 h 8 _ 3 rfl (by kernel_rfl)
  obtain ⟨m2,z2,_,k3,k4⟩:=jv0 Tryz.underlying41 k1 2 _ 1 rfl Rs.sizestring
  have:=jk0 Tryz.underlying9 k3
  omega
 obtain ⟨mc,zc,_,c1,c2⟩:=jv0 Tryz.underlying49 h 9 _ 1 rfl Rs.sizeSapiNamed
 obtain ⟨dc,e1,e2,e3⟩:=bk_elems Tryz.underlying42 Rs.sizeapiNamed hf.conds c1 (fun x hx=>by obtain ⟨q,_,rfl⟩:=List.mem_map.1 hx;rfl)
 obtain ⟨md,zd,_,d1,d2⟩:=jv0 Tryz.underlying49 h 19 _ 1 rfl (by kernel_rfl)
 obtain ⟨dd,f1,f2,f3⟩:=bk_elems Tryz.underlying46 (by kernel_rfl) hf.dates d1 (fun x hx=>by obtain ⟨q,_,rfl⟩:=List.mem_map.1 hx;rfl)
 obtain ⟨mn,zn,_,n1,n2⟩:=jv0 Tryz.underlying49 h 20 _ 1 rfl (by kernel_rfl)
 obtain ⟨dn,g1,g2,g3⟩:=bk_elems Tryz.underlying47 Rs.sizestring hf.names n1 (fun x hx=>by obtain ⟨q,_,rfl⟩:=List.mem_map.1 hx;rfl)
 have l1:=bulk_len dc;have l2:=bulk_len dd;have l3:=bulk_len dn
 rw [List.length_map] at e1 f1 g1
 have hcs: ∀c∈p.1.conds,c.name.length≤1048576:=by
  intro c hc
  obtain ⟨k,hk⟩:=List.mem_iff_getElem?.1 hc
  have hkl:k<p.1.conds.length:=(List.getElem?_eq_some_iff.1 hk).1
  obtain ⟨d,hd⟩: ∃d,dc[k]?=some d:=⟨_,List.getElem?_eq_getElem (by omega)⟩
  obtain ⟨m,pl,_,q1⟩:=e3 k (Rs.namedc c) d (by rw [List.getElem?_map,hk];rfl) hd
  obtain ⟨m2,z2,_,q2,q3⟩:=jv0 Tryz.underlying109 q1 0 _ 1 rfl Rs.sizestring
  have q4:=jk0 Tryz.underlying9 q2
  have q5:=bulk_part (List.mem_of_getElem? hd)
  have q3:Rows.uptoBulk z2.1+1≤Rows.uptoBulk d:=q3
  omega
 have hns: ∀c∈p.1.names,c.length≤1048576:=by
  intro c hc
  obtain ⟨k,hk⟩:=List.mem_iff_getElem?.1 hc
  have hkl:k<p.1.names.length:=(List.getElem?_eq_some_iff.1 hk).1
  obtain ⟨d,hd⟩: ∃d,dn[k]?=some d:=⟨_,List.getElem?_eq_getElem (by omega)⟩
  obtain ⟨m,pl,_,q1⟩:=g3 k [Rs.sv c] d (by rw [List.getElem?_map,hk];rfl) hd
  have q4:=jk0 Tryz.underlying9 q1
  have q5:=bulk_part (List.mem_of_getElem? hd)
  have q4:c.length+1=Rows.uptoBulk d:=q4
  omega
 exact ⟨h1,h3,h4,h10,h11,h13,h14,h16,h17,h7,h8,hcs,hns,by omega,by omega,by omega,ho.days⟩
theorem bk_trees: ∀(n:Nat) (v:Value) (y:DataW H×List MemPlace),DataW.trod enc Tryz.prog W base spare held n 24 [v]=some y→Rows.uptoBulk y.1≤1048576→ ∃l:List DT,LayL All W l v∧(∀x∈l,Bk x)∧tsz l+1≤Rows.uptoBulk y.1:=by
 intro n
 induction n using Nat.strongRecOn with
 |ind n ih=>
  intro v y h hB
  obtain ⟨l,hr,hq,hl⟩:=kq7 Tryz.underlying24 Rs.sizeapiItem (by omega) Rs.ic (fun p=>Rs.ItemOk p.1∧Rs.Flat W p.1 p.2.1 p.2.2.1 p.2.2.2.1) (fun n cs y _ h=>by
   obtain ⟨f,sc,sd,sn,si,m,z,e,h1,h2,_,h3⟩:=Rs.op_item h
   exact ⟨(f,sc,sd,sn,si),e,h1,h2⟩) h
  obtain ⟨ds,e1,e2,e3⟩:=bk_elems Tryz.underlying24 Rs.sizeapiItem hr h (fun x hx=>by obtain ⟨q,_,rfl⟩:=List.mem_map.1 hx;rfl)
  rw [List.length_map] at e1
  have key: ∀(i:Nat) p d,l[i]?=some p→ds[i]?=some d→ ∃x:DT,x.cells=Rs.ic p∧Lay All W x∧Bk x∧tsz x.l+1≤Rows.uptoBulk d:=by
   intro i p d hp hd
   obtain ⟨m2,pl,l2',h2⟩:=e3 i (Rs.ic p) d (by rw [List.getElem?_map,hp];rfl) hd
   have hdB:Rows.uptoBulk d≤1048576:=by have:=bulk_part (List.mem_of_getElem? hd);omega
   obtain ⟨m3,y3,l3',h3,w3⟩:=jv0 Tryz.underlying49 h2 21 _ 1 rfl Rs.sizeSapiItem
   have w3:Rows.uptoBulk y3.1+1≤Rows.uptoBulk d:=w3
   obtain ⟨l2,g1,g2,g3⟩:=ih m3 (by omega) _ y3 h3 (by omega)
   obtain ⟨q1,q2⟩:=hq p (List.mem_of_getElem? hp)
   have hb1:=bk_item h2 q1 q2 hdB
   have hlen:l2.length≤1048576:=by
    have h9:=Ic.length_sizes (Ic.trees l2)
    rw [Ic.jj3,List.length_map] at h9
    have h10:l2.length≤tsz l2:=by unfold Ic.tsz;rw [Ic.jj3];exact h9
    omega
   exact ⟨.node p.1 p.2.1 p.2.2.1 p.2.2.2.1 p.2.2.2.2 l2,rfl,.node _ _ _ _ _ _ (Ic.Row.all q2.conds) (Ic.Row.all q2.dates) (Ic.Row.all q2.names) g1.row g1.lay,.node _ hb1 hlen g2,by show tsz l2+1≤_;omega⟩
  have pick: ∀(l:List (Rs.Item×Rs.Sl)) (ds:List (DataW H)),ds.length=l.length→(∀(i:Nat) p d,l[i]?=some p→ds[i]?=some d→ ∃x:DT,x.cells=Rs.ic p∧Lay All W x∧Bk x∧tsz x.l+1≤Rows.uptoBulk d)→ ∃z:List DT,z.map DT.cells=l.map Rs.ic∧(∀x∈z,Lay All W x)∧(∀x∈z,Bk x)∧tsz z≤Rows.uptoBulkAll ds:=by
   intro l
   induction l with
   |nil=>exact fun ds _ _=>⟨[],rfl,fun x hx=>absurd hx List.not_mem_nil,fun x hx=>absurd hx List.not_mem_nil,Nat.zero_le _⟩
   |cons p l ih2=>
    intro ds hlen hk
    match ds,hlen with
    |d::ds,hlen=>
     obtain ⟨x,hx1,hx2,hx3,hx4⟩:=hk 0 p d rfl rfl
     obtain ⟨z,hz1,hz2,hz3,hz4⟩:=ih2 ds (by simpa using hlen) (fun i q e hq he=>hk (i+1) q e (by simpa using hq) (by simpa using he))
     refine ⟨x::z,by rw [List.map_cons,List.map_cons,hx1,hz1],fun y hy=>?_,fun y hy=>?_,?_⟩
     ·rcases List.mem_cons.1 hy with rfl|hy
      ·exact hx2
      ·exact hz2 y hy
     ·rcases List.mem_cons.1 hy with rfl|hy
      ·exact hx3
      ·exact hz3 y hy
     ·rw [Ic.kq0,Rows.uptoBulkAll];omega
  obtain ⟨z,hz1,hz2,hz3,hz4⟩:=pick l ds e1 key
  exact ⟨z,⟨Ic.Row.all (by rw [hz1];exact hr),hz2⟩,hz3,by omega⟩
structure SrcIn (W:World) (x:Ic.Src) (l:List DT) (si:Value):Prop where
 lay:LayL (fun g=>g<W.heap.size) W l si
 tr:l.map DT.tree=x.items
 bk: ∀y∈l,Bk y
 size:tsz l≤1048576
 name:x.name.length≤1048576
theorem open_bulk {b0:Nat} {r:Reach} {v:Value} {d:DataW H} {p:List MemPlace} (hv:Value.okWide Tryz.prog W r b0 26 v) (h:DataW.Trod enc Tryz.prog W base spare held 26 v d p) (hw:Rows.uptoBulk d≤1048576):
  ∃(x:Ic.Src) (l:List DT) (si:Value),v= .agg (Rs.scells x.name x.frm x.days si).toArray∧SrcIn W x l si:=by
 have h0:=h
 obtain ⟨s,si,rfl,_,_⟩:=Rs.open_source hv h
 obtain ⟨n,hn⟩:=h0
 obtain ⟨m,y,_,h1,w1⟩:=jv0 Tryz.underlying26 hn 3 _ 1 rfl Rs.sizeSapiItem
 obtain ⟨m0,y0,_,h3,w3⟩:=jv0 Tryz.underlying26 hn 0 _ 1 rfl Rs.sizestring
 have w1:Rows.uptoBulk y.1+1≤Rows.uptoBulk d:=w1
 have w3:Rows.uptoBulk y0.1+1≤Rows.uptoBulk d:=w3
 obtain ⟨l,g1,g2,g3⟩:=bk_trees m si y h1 (by omega)
 have h4:=jk0 Tryz.underlying9 h3
 exact ⟨⟨s.name,s.frm,s.days,l.map DT.tree⟩,l,si,rfl,g1.mono (fun g hg _=>hg),rfl,g2,by omega,by show s.name.length≤_;omega⟩
end
end Go.Proofs.YtfficindoecpfaaGreatDoor.Pt
namespace Go.Proofs.YtfficindoecpfaaGreatDoor.Pt
open Go.RowKit Mem Vw
open Ic (RowB DT Lay LayL tsz)
theorem Wks.fr {w w':World} (h:Pr.Wks w) (hf:Fr (fun _=>False) w w'):Pr.Wks w':=h.below (hf.below (Nat.le_refl _) (fun _ e=>e.elim))
theorem cost_small {h:Rs.Item} (hs:Sm1 h):cost h≤1120:=by
 have:=hs.lists
 unfold cost
 have h4:h.names.length≤60:=by omega
 omega
theorem len_tsz (l:List DT):l.length≤tsz l:=by
 have h9:=Ic.length_sizes (Ic.trees l)
 rw [Ic.jj3,List.length_map] at h9
 unfold Ic.tsz
 rw [Ic.jj3]
 exact h9
theorem costL_light {l:List DT} (hs: ∀y∈l,Sm y):costL l≤2270*l.length:=by
 induction l with
 |nil=>exact Nat.zero_le _
 |cons y l ih=>
  have h1:=cost_small (hs y (List.mem_cons_self ..)).one
  have h2:=ih (fun z hz=>hs z (List.mem_cons_of_mem _ hz))
  have e:costL (y::l)=2*cost y.h+20+costL l:=by unfold costL;rw [List.map_cons,List.sum_cons]
  rw [e,List.length_cons]
  omega
theorem costS_light {l:List DT} (hs: ∀y∈l,Sm y):costS l≤2270*tsz l:=by
 induction l with
 |nil=>exact Nat.zero_le _
 |cons y l ih=>
  have h1:=cost_small (hs y (List.mem_cons_self ..)).one
  have h2:=ih (fun z hz=>hs z (List.mem_cons_of_mem _ hz))
  have h3:=costL_light (hs y (List.mem_cons_self ..)).inner
  have h4:=len_tsz y.l
  have e:costS (y::l)=costT y+costS l:=by unfold costS;rw [List.map_cons,List.sum_cons]
  rw [e,Ic.kq0]
  unfold costT
  omega
theorem SrcIn.fr {W W':World} {x:Ic.Src} {l:List DT} {iv:Value} (h:SrcIn W x l iv) (hf:Fr (fun _=>False) W W'):SrcIn W' x l iv:=
 ⟨(h.lay.fr hf (fun _ _ e=>e)).mono (fun g hg _=>hg),h.tr,h.bk,h.size,h.name⟩
theorem print_in {W:World} {x:Ic.Src} {l:List DT} {iv:Value} (hI:SrcIn W x l iv) (hl:Light x l) (hE:Env W) (h7:7≤W.heap.size):
  Calls Tryz.prog 11 #[.agg (Rs.scells x.name x.frm x.days iv).toArray] W fun e w'=>e= .returned (.tuple #[.string ⟨(printed x).1.toArray⟩,.int .i64 (printed x).2])∧Fr (fun _=>False) W w':=by
 have hc:=costS_light hl.sm
 have hz:=hl.size
 refine (print_any hE h7 hI.lay (fun y hy=>⟨(hI.bk y hy).fine,fun z hz=>((hI.bk y hy).inner z hz).fine⟩) (by have:=hI.name;omega) (by unfold lim;omega)).mono ?_
 rintro e w' ⟨h1,h2⟩
 rw [printR_eq x l hI.tr] at h1
 exact ⟨h1,h2⟩
theorem light_in {W:World} {x:Ic.Src} {l:List DT} {iv:Value} (hI:SrcIn W x l iv):
  Calls Tryz.prog 10 #[.agg (Rs.scells x.name x.frm x.days iv).toArray] W fun e w'=> ∃b:Bool,e= .returned (.bool b)∧(b=true→Light x l)∧Fr (fun _=>False) W w':=
 light_any hI.lay hI.bk (by have:=hI.size;omega) hI.name
theorem print_err {x:Ic.Src} {e:Int} (h:print x= .error e):e=1∨e=3:=by
 unfold print at h
 cases hs:srcL x with
 |none=>rw [hs] at h;injection h with h;exact .inl h.symm
 |some ls=>
  rw [hs] at h
  have h:(if 600<Ic.sizes x.items∨5000<toksOf ls∨20000<(textOf ls).length then (Except.error 3:Except Int Rs.Bytes) else .ok (textOf ls))= .error e:=h
  by_cases hb:600<Ic.sizes x.items∨5000<toksOf ls∨20000<(textOf ls).length
  ·rw [if_pos hb] at h;injection h with h;exact .inr h.symm
  ·rw [if_neg hb] at h;cases h
end Go.Proofs.YtfficindoecpfaaGreatDoor.Pt
