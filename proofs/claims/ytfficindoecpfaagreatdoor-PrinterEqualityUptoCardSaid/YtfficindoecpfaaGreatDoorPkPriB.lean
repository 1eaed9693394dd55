/-
  The printer's loops: names, conditions. The printer's circumstances and consequences.
-/
import Derived.Test.YtfficindoecpfaaGreatDoorPriParts
import Derived.Test.YtfficindoecpfaaGreatDoorPkInc
set_option maxHeartbeats 64000000
set_option maxRecDepth 100000
set_option linter.unusedVariables false
set_option linter.unusedSimpArgs false
namespace Go.Proofs.YtfficindoecpfaaGreatDoor.Pt
open Go.RowKit Mem Vw
open Ic (RowB)
theorem cat_none (a:T):(cat (a) (none))=none:=by cases a<;>rfl
theorem none_cat (a:T):(cat (none) (a))=none:=rfl
theorem kq8 {α:Type} {f:α→T}: ∀(l:List α) (b:Bool) (j:Nat) (x:α),l[j]?=some x→f x=none→commas f b l=none
 | [],b,j,x,h,_=>by simp at h
 |y::l,b,0,x,h,e=>by
  simp only [List.getElem?_cons_zero,Option.some.injEq] at h
  subst h
  unfold commas
  rw [e,none_cat,cat_none]
 |y::l,b,j+1,x,h,e=>by
  rw [List.getElem?_cons_succ] at h
  unfold commas
  rw [kq8 l false j x h e,cat_none,cat_none]
def comma (j:Nat):List Rs.Bytes:=if j=0 then [] else [[44]]
theorem cat_assoc (a b c:T):(cat ((cat (a) (b))) (c))=(cat (a) ((cat (b) (c)))):=by
 cases a with
 |none=>rfl
 |some x=>
  cases b with
  |none=>rfl
  |some y=>
   cases c with
   |none=>rfl
   |some z=>simp [cat]
theorem ok_nil (a:T):(cat (ok []) (a))=a:=by cases a<;>rfl
theorem commas_app {α:Type} {f:α→T}: ∀(l r:List α) (b:Bool),commas f b (l++r)=(cat (commas f b l) (commas f (b&&l.isEmpty) r))
 | [],r,b=>by simp only [List.nil_append,commas,ok_nil,List.isEmpty_nil,Bool.and_true]
 |x::l,r,b=>by
  simp only [List.cons_append,commas]
  rw [commas_app l r false,cat_assoc,cat_assoc]
  simp
theorem kv2 {α:Type} {f:α→T} {l:List α} {j:Nat} {x:α} {a t:List Rs.Bytes} (hx:l[j]?=some x) (ha:commas f true (l.take j)=some a) (ht:f x=some t):commas f true (l.take (j+1))=some (a++(comma j++t)):=by
 have hj:j<l.length:=(List.getElem?_eq_some_iff.1 hx).1
 rw [List.take_add_one,hx,Option.toList_some,commas_app,ha]
 have e:((true:Bool)&&(l.take j).isEmpty)=decide (j=0):=by
  cases j with
  |zero=>rfl
  |succ j=>cases l with
   |nil=>simp at hj
   |cons y l=>rfl
 rw [e]
 unfold commas
 rw [ht]
 unfold comma
 by_cases h0:j=0
 ·subst h0;simp [commas,cat,ok]
 ·simp [h0,commas,cat,ok]
theorem comma_len (j:Nat):(comma j).length≤1:=by unfold comma;split<;>decide
theorem names_any {G:Nat} {P:Nat→Prop} {b:Nat} {k:Value} {s:St} {w:World} {i:Nat} {h:Rs.Item} {c d n l:Value} (hw:WQ P i G b k s w) (hi: ¬P i) (hG: ∀q,q<G→P q) (hb:w.heap[i]?=some (.cells (Rs.icells h c d n l).toArray 49 (0,0))) (ho:Ok h) (hr:RowB P w n 1 (h.names.map fun x=> [sv x])) (hn:s.n+4*h.names.length+20≤lim):
  Calls Tryz.prog 73 #[.pointer (some ⟨b,0,none⟩),.pointer (some ⟨i,0,none⟩)] w (Out P (namesT h.names) (fun ts w'=>WQ P i G b k (s.app ts) w'∧w'.heap[i]?=some (.cells (Rs.icells {h with names:= []} c d (.slice none 0 0) l).toArray 49 (0,0))) w):=by
 have HW0:=hdd hw;have HI:=hdd hi;have HG:=hdd hG;have HB0:=hdd hb;have HO:=hdd ho;have HR:=hdd hr
 have hlen:h.names.length≤9223372036854775807:=by unfold lim at hn;omega
 obtain ⟨A,cap,hA,_,_⟩:=hr.slice
 rw [List.length_map] at hA
 subst hA
 clear hw hi hG hb ho hr
 go_enter Tryz.func73,Tryz.ntmps73
 go_wp2_with fail
 refine (jq3 HW0.o [[40]] _ rfl _ _ (by decide) (by show s.n+2*1≤lim;omega)).mono ?_
 rintro e w1 ⟨rfl,h1,hf⟩
 obtain ⟨s1,HS1⟩: ∃z,Hid (s.app [[40]]=z):=⟨_,rfl⟩
 have n1:s1.n≤s.n+2:=by rw [←HS1.o,St.app_n];exact Nat.le_refl _
 have HW1:Hid (WQ P i G b k s1 w1):=by rw [←HS1.o];exact h1
 have HB1:Hid (w1.heap[i]?=some (.cells (Rs.icells h c d (.slice A h.names.length cap) l).toArray 49 (0,0))):=hf.blk HB0.o (fun e=>e (.inr rfl))
 have HF1:Hid (FN P w w1):=hf.mono (fun q _ e e2=>e (.inl e2))
 have HA0:Hid (commas name true (h.names.take 0)=some []):=rfl
 have HW2:Hid (WQ P i G b k (s1.app []) w1):=HW1
 have c31:w1.cell? ⟨i,31,none⟩=some (.slice A h.names.length cap):=jq0 HB1.o 31
 clear h1 hf
 go_wp2_with fail
 go_loopw [14] (fun q wr=> ∃(j:Nat) (ts:List Rs.Bytes),q= .int .i64 j∧j≤h.names.length∧Hid (commas name true (h.names.take j)=some ts)∧Hid (ts.length≤2*j)∧Hid (WQ P i G b k (s1.app ts) wr)∧Hid (wr.heap[i]?=some (.cells (Rs.icells h c d (.slice A h.names.length cap) l).toArray 49 (0,0)))∧Hid (FN P w wr)) (fun q _=>h.names.length-(intOf q).toNat)
 case atStart=>exact ⟨0,[],rfl,Nat.zero_le _,HA0,Nat.zero_le _,HW2,HB1,HF1⟩
 case round=>
  clear HA0 HW2
  obtain ⟨j,ts,rfl,hj,HA,HTL,HW,HB,HF⟩:=hrel
  have i1:(0:Int)≤(j:Int):=Int.natCast_nonneg _
  by_cases hlt:j<h.names.length
  ·have i2:(j:Int)<(h.names.length:Int):=by omega
   obtain ⟨x,hx⟩: ∃x,h.names[j]?=some x:=⟨_,List.getElem?_eq_getElem hlt⟩
   obtain ⟨p0,r0,hA,hpg,hpb,hpat⟩:=(HR.o.fr HF.o (fun q hq e=>e hq)).at (k:=j) (x:= [sv x]) (by rw [List.getElem?_map,hx];rfl)
   subst hA
   have cx:wr.cell? ⟨p0,r0+j,none⟩=some (.string ⟨x.toArray⟩):=by have:=hpat 0 _ rfl;rw [Nat.mul_one] at this;exact this
   have HX:=hdd hx
   clear hpg hpb hpat hx
   go_upto_region 4 with fail
   obtain ⟨gi,HGI⟩: ∃q,Hid (wr.heap.size=q):=⟨_,rfl⟩
   obtain ⟨w2,hu⟩: ∃u,wr.alloc (.cells #[.string ⟨x.toArray⟩] 9)=u:=⟨_,rfl⟩
   rw [hu,HGI.o]
   have HFA:Hid (Fr (fun _=>False) wr w2):=by rw [←hu];exact (Fr.refl _ wr).alloc _
   have HGB:Hid (w2.heap[gi]?=some (.cells #[.string ⟨x.toArray⟩] 9 (0,0))):=by rw [←hu];exact jq2 HGI.o.symm
   have HW2:Hid (WR G (fun q=>(P q∨q=i)∨q=gi) b k (s1.app ts) w2):=HW.o.ext HFA.o (by rw [HGI.o];exact Nat.le_refl _) (jq7 HGB.o)
   have HB2:Hid (w2.heap[i]?=some (.cells (Rs.icells h c d (.slice (some ⟨p0,r0,none⟩) h.names.length cap) l).toArray 49 (0,0))):=HFA.o.blk HB.o (fun e=>e)
   have HNI:Hid (¬(P gi∨gi=i)):=fun e=>by
    have h1:=HGI.o
    rcases e with e|e
    ·have:=HW.o.lt gi (.inl e);omega
    ·have:=jq7 HB.o;omega
   have HNN:Hid ((s1.app ts).n≤s.n+2+4*j):=by show _≤_;rw [St.app_n];have:=HTL.o;omega
   have HLT:Hid (j<h.names.length):=hlt
   have HXL:Hid (x.length≤9223372036854775807):=HO.o.names x (List.mem_of_getElem? HX.o)
   clear hu hlt cx
   by_cases hj0:j=0
   ·subst hj0
    go_wp2_with fail
    refine (name_any HW2.o HNI.o (fun q hq=> .inl (HG.o q hq)) x HGB.o rfl HXL.o (by have:=HNN.o;have:=HLT.o;skip;omega)).mono ?_
    rintro e w4 (⟨ht,rfl,hf⟩|⟨tx,ht,rfl,⟨h1,_⟩,hf⟩)
    ·exact ⟨rfl,.inl ⟨by unfold namesT;rw [kq8 _ true 0 x HX.o ht];rfl,rfl,(HF.o.trans (HFA.o.mono (fun _ _ e=>e.elim))).trans (hf.mono (fun q _ e e2=>e (.inl e2)))⟩⟩
    have hl:=jx7 _ ht
    have HAN:Hid (commas name true (h.names.take (0+1))=some (ts++(comma 0++tx))):=kv2 HX.o HA.o ht
    have HTN:Hid ((ts++(comma 0++tx)).length≤2*(0+1)):=by show _≤_;rw [List.length_append,List.length_append];have:=HTL.o;have:=comma_len 0;omega
    have HWN:Hid (WQ P i G b k (s1.app (ts++(comma 0++tx))) w4):=by
     rw [←St.app_app,←St.app_app,show comma 0= [] from rfl,St.app_nil]
     exact h1.mono (fun q hq=> .inl hq) (fun q hq=> .inl (HG.o q hq))
    have HBN:Hid (w4.heap[i]?=some (.cells (Rs.icells h c d (.slice (some ⟨p0,r0,none⟩) h.names.length cap) l).toArray 49 (0,0))):=hf.blk HB2.o (fun e=>e (.inr rfl))
    have HFN:Hid (FN P w w4):=(HF.o.trans (HFA.o.mono (fun _ _ e=>e.elim))).trans (hf.mono (fun q _ e e2=>e (.inl e2)))
    clear h1 hf ht
    go_wp2_with fail
    go_roundw
    case rel=>exact ⟨0+1,_,by go_num,HLT.o,HAN,HTN,HWN,HBN,HFN⟩
    case measure=>have:=HLT.o;simp [intOf];omega
   have HJ0:=hdd hj0
   have j0:(0:Int)<(j:Int):=by omega
   clear hj0
   go_wp2_with fail
   refine (jq3 HW2.o [[44]] _ rfl _ _ (by decide) (by have:=HNN.o;have:=HLT.o;show (s1.app ts).n+2*1≤lim;omega)).mono ?_
   rintro e w3 ⟨rfl,h1,hf⟩
   have HW3:=hdd h1
   have HGB3:Hid (w3.heap[gi]?=some (.cells #[.string ⟨x.toArray⟩] 9 (0,0))):=hf.blk HGB.o (fun e=>e (.inr rfl))
   have HB3:Hid (w3.heap[i]?=some (.cells (Rs.icells h c d (.slice (some ⟨p0,r0,none⟩) h.names.length cap) l).toArray 49 (0,0))):=hf.blk HB2.o (fun e=>e (.inl (.inr rfl)))
   have HFB:Hid (FN P wr w3):=(HFA.o.mono (T:=fun q=> ¬P q) (fun _ _ e=>e.elim)).trans (hf.mono (fun q _ e e2=>e (.inl (.inl e2))))
   have HNC:Hid (((s1.app ts).app [[44]]).n=(s1.app ts).n+2):=by show _=_;rw [St.app_n];rfl
   have HCM:Hid (comma j= [[44]]):=by show _=_;unfold comma;exact if_neg HJ0.o
   clear h1 hf
   go_wp2_with fail
   refine (name_any HW3.o HNI.o (fun q hq=> .inl (HG.o q hq)) x HGB3.o rfl HXL.o (by have:=HNN.o;have:=HLT.o;have:=HNC.o;omega)).mono ?_
   rintro e w4 (⟨ht,rfl,hf⟩|⟨tx,ht,rfl,⟨h1,_⟩,hf⟩)
   ·exact ⟨rfl,.inl ⟨by unfold namesT;rw [kq8 _ true j x HX.o ht];rfl,rfl,(HF.o.trans HFB.o).trans (hf.mono (fun q _ e e2=>e (.inl e2)))⟩⟩
   have hl:=jx7 _ ht
   have HAN:Hid (commas name true (h.names.take (j+1))=some (ts++(comma j++tx))):=kv2 HX.o HA.o ht
   have HTN:Hid ((ts++(comma j++tx)).length≤2*(j+1)):=by show _≤_;rw [List.length_append,List.length_append];have:=HTL.o;have:=comma_len j;omega
   have HWN:Hid (WQ P i G b k (s1.app (ts++(comma j++tx))) w4):=by
    rw [←St.app_app,←St.app_app,HCM.o]
    exact h1.mono (fun q hq=> .inl hq) (fun q hq=> .inl (HG.o q hq))
   have HBN:Hid (w4.heap[i]?=some (.cells (Rs.icells h c d (.slice (some ⟨p0,r0,none⟩) h.names.length cap) l).toArray 49 (0,0))):=hf.blk HB3.o (fun e=>e (.inr rfl))
   have HFN:Hid (FN P w w4):=(HF.o.trans HFB.o).trans (hf.mono (fun q _ e e2=>e (.inl e2)))
   clear h1 hf ht
   go_wp2_with fail
   go_roundw
   case rel=>exact ⟨j+1,_,by go_num,HLT.o,HAN,HTN,HWN,HBN,HFN⟩
   case measure=>have:=HLT.o;simp [intOf];omega
  ·obtain rfl:j=h.names.length:=by omega
   rw [List.take_length] at HA
   obtain ⟨s2,HS2⟩: ∃z,Hid (s1.app ts=z):=⟨_,rfl⟩
   have HW2:Hid (WQ P i G b k s2 wr):=by rw [←HS2.o];exact HW.o
   have n2:s2.n≤s.n+2+4*h.names.length:=by rw [←HS2.o,St.app_n];have:=HTL.o;omega
   go_wp2_with fail
   refine (jq3 HW2.o [[41]] _ rfl _ _ (by decide) (by show s2.n+2*1≤lim;omega)).mono ?_
   rintro e w3 ⟨rfl,h1,hf⟩
   have HW3:=hdd h1
   have HB3:Hid (w3.heap[i]?=some (.cells (Rs.icells h c d (.slice A h.names.length cap) l).toArray 49 (0,0))):=hf.blk HB.o (fun e=>e (.inr rfl))
   have HF3:Hid (FN P w w3):=HF.o.trans (hf.mono (fun q _ e e2=>e (.inl e2)))
   have d31:w3.cell? ⟨i,31,none⟩=some (.slice A h.names.length cap):=jq0 HB3.o 31
   have f31:w3.frozen? ⟨i,31,none⟩=false:=jq1 HB3.o 31
   clear h1 hf
   go_wp2_with fail
   go_end0
   have hf:Fr (fun q=>q=i) w3 (w3.setCell ⟨i,31,none⟩ (.slice none 0 0)):=(Fr.refl (fun q=>q=i) w3).setb 31 _
   refine .inr ⟨[[40]]++(ts++ [[41]]),by unfold namesT;rw [HA.o];rfl,rfl,⟨?_,jq9 HB3.o 31 _⟩,HF3.o.trans (hf.mono (fun q _ e e2=>by have e:q=i:=e;subst e;exact HI.o e2))⟩
   rw [←St.app_app,HS1.o,←St.app_app,HS2.o]
   exact HW3.o.fr hf (fun q e=>⟨.inr e,by have e:q=i:=e;subst e;exact Nat.le_of_not_lt fun h=>HI.o (HG.o _ h)⟩)
end Go.Proofs.YtfficindoecpfaaGreatDoor.Pt
namespace Go.Proofs.YtfficindoecpfaaGreatDoor.Pt
open Go.RowKit Mem Vw
open Ic (RowB)
theorem kz5: ∀(l:List Rs.Named) (b:Bool) (j:Nat) (x:Rs.Named),l[j]?=some x→(∀b,cond b x=none)→conds b l=none
 | [],b,j,x,h,_=>by simp at h
 |y::l,b,0,x,h,e=>by
  simp only [List.getElem?_cons_zero,Option.some.injEq] at h
  subst h
  unfold conds
  rw [e,none_cat]
 |y::l,b,j+1,x,h,e=>by
  rw [List.getElem?_cons_succ] at h
  unfold conds
  rw [kz5 l false j x h e,cat_none]
def ifWord (j:Nat):Rs.Bytes:=if j=0 then [105,102] else [97,110,100]
theorem conds_app: ∀(l r:List Rs.Named) (b:Bool),conds b (l++r)=(cat (conds b l) (conds (b&&l.isEmpty) r))
 | [],r,b=>by simp only [List.nil_append,conds,ok_nil,List.isEmpty_nil,Bool.and_true]
 |x::l,r,b=>by
  simp only [List.cons_append,conds]
  rw [conds_app l r false,cat_assoc]
  simp
theorem conds_take {l:List Rs.Named} {j:Nat} {x:Rs.Named} {a t:List Rs.Bytes} (hx:l[j]?=some x) (ha:conds true (l.take j)=some a) (h1:1≤x.is_∧x.is_≤4) (ht:name x.name=some t):conds true (l.take (j+1))=some (a++([ifWord j]++(t++ [statusT x.is_]))):=by
 have hj:j<l.length:=(List.getElem?_eq_some_iff.1 hx).1
 rw [List.take_add_one,hx,Option.toList_some,conds_app,ha]
 have e:((true:Bool)&&(l.take j).isEmpty)=decide (j=0):=by
  cases j with
  |zero=>rfl
  |succ j=>cases l with
   |nil=>simp at hj
   |cons y l=>rfl
 rw [e]
 unfold conds cond ifWord
 rw [if_pos h1,ht]
 by_cases h0:j=0
 ·subst h0;simp [conds,cat,ok]
 ·simp [h0,conds,cat,ok]
theorem status_len (i:Int):(statusT i).length≤31:=by
 unfold statusT
 repeat' split
 all_goals decide
theorem cond_none {x:Rs.Named} (h: ¬(1≤x.is_∧x.is_≤4)): ∀b,cond b x=none:=fun b=>by unfold cond;exact if_neg h
theorem cond_name {x:Rs.Named} (h:name x.name=none): ∀b,cond b x=none:=fun b=>by
 unfold cond
 split
 ·rw [h,none_cat,cat_none]
 ·rfl
theorem circ_any {G:Nat} {P:Nat→Prop} {b:Nat} {k:Value} {s:St} {w:World} {i:Nat} {h:Rs.Item} {c d n l:Value} (hw:WQ P i G b k s w) (hi: ¬P i) (hG: ∀q,q<G→P q) (hb:w.heap[i]?=some (.cells (Rs.icells h c d n l).toArray 49 (0,0))) (ho:Ok h) (hr:RowB P w c 2 (h.conds.map Rs.namedc)) (hn:s.n+6*h.conds.length+40≤lim):
  Calls Tryz.prog 71 #[.pointer (some ⟨b,0,none⟩),.pointer (some ⟨i,0,none⟩)] w (Out P (circ h) (fun ts w'=>WQ P i G b k (s.app ts) w'∧w'.heap[i]?=some (.cells (Rs.icells (circLeft h) (.slice none 0 0) d n l).toArray 49 (0,0))) w):=by
 have HW0:=hdd hw;have HI:=hdd hi;have HG:=hdd hG;have HO:=hdd ho;have HR:=hdd hr
 have hlen:h.conds.length≤9223372036854775807:=by unfold lim at hn;omega
 obtain ⟨A,cap,hA,_,_⟩:=hr.slice
 rw [List.length_map] at hA
 subst hA
 have HB0:Hid (w.heap[i]?=some (.cells (Rs.icells h (.slice A h.conds.length cap) d n l).toArray 49 (0,0))):=hb
 have HF0:Hid (FN P w w):=Fr.refl _ _
 have HA0:Hid (conds true (h.conds.take 0)=some []):=rfl
 have c13:w.cell? ⟨i,13,none⟩=some (.slice A h.conds.length cap):=jq0 hb 13
 clear hw hi hG hb ho hr
 go_enter Tryz.func71,Tryz.ntmps71
 go_wp2_with fail
 go_loopw [4,12] (fun z q wr=> ∃(j:Nat) (ts:List Rs.Bytes),z= .string ⟨(ifWord j).toArray⟩∧q= .int .i64 j∧j≤h.conds.length∧Hid (conds true (h.conds.take j)=some ts)∧Hid (ts.length≤3*j)∧Hid (WQ P i G b k (s.app ts) wr)∧Hid (wr.heap[i]?=some (.cells (Rs.icells h (.slice A h.conds.length cap) d n l).toArray 49 (0,0)))∧Hid (FN P w wr)) (fun z q _=>h.conds.length-(intOf q).toNat)
 case atStart=>exact ⟨0,[],rfl,rfl,Nat.zero_le _,HA0,Nat.zero_le _,HW0,HB0,HF0⟩
 case round=>
  clear HA0 HW0 HB0 HF0
  obtain ⟨j,ts,rfl,rfl,hj,HA,HTL,HW,HB,HF⟩:=hrel
  have i1:(0:Int)≤(j:Int):=Int.natCast_nonneg _
  by_cases hlt:j<h.conds.length
  ·have i2:(j:Int)<(h.conds.length:Int):=by omega
   obtain ⟨x,hx⟩: ∃x,h.conds[j]?=some x:=⟨_,List.getElem?_eq_getElem hlt⟩
   obtain ⟨p0,r0,hA,hpg,hpb,hpat⟩:=(HR.o.fr HF.o (fun q hq e=>e hq)).at (k:=j) (x:=Rs.namedc x) (by rw [List.getElem?_map,hx];rfl)
   subst hA
   have cx0:wr.cell? ⟨p0,r0+j*2,none⟩=some (.string ⟨x.name.toArray⟩):=hpat 0 _ rfl
   have cx1:wr.cell? ⟨p0,r0+j*2+1,none⟩=some (.int .i64 x.is_):=hpat 1 _ rfl
   have HX:=hdd hx
   clear hpg hpb hpat hx
   go_upto_region 4 with fail
   obtain ⟨gi,HGI⟩: ∃q,Hid (wr.heap.size=q):=⟨_,rfl⟩
   obtain ⟨w2,hu⟩: ∃u,wr.alloc (.cells #[.string ⟨x.name.toArray⟩,.int .i64 x.is_] 109)=u:=⟨_,rfl⟩
   rw [hu,HGI.o]
   have HFA:Hid (Fr (fun _=>False) wr w2):=by rw [←hu];exact (Fr.refl _ wr).alloc _
   have HGB:Hid (w2.heap[gi]?=some (.cells #[.string ⟨x.name.toArray⟩,.int .i64 x.is_] 109 (0,0))):=by rw [←hu];exact jq2 HGI.o.symm
   have HW2:Hid (WR G (fun q=>(P q∨q=i)∨q=gi) b k (s.app ts) w2):=HW.o.ext HFA.o (by rw [HGI.o];exact Nat.le_refl _) (jq7 HGB.o)
   have HB2:Hid (w2.heap[i]?=some (.cells (Rs.icells h (.slice (some ⟨p0,r0,none⟩) h.conds.length cap) d n l).toArray 49 (0,0))):=HFA.o.blk HB.o (fun e=>e)
   have HNI:Hid (¬(P gi∨gi=i)):=fun e=>by
    have h1:=HGI.o
    rcases e with e|e
    ·have:=HW.o.lt gi (.inl e);omega
    ·have:=jq7 HB.o;omega
   have HNN:Hid ((s.app ts).n≤s.n+6*j):=by show _≤_;rw [St.app_n];have:=HTL.o;omega
   have HLT:Hid (j<h.conds.length):=hlt
   have HXL:Hid (x.name.length≤9223372036854775807):=HO.o.conds x (List.mem_of_getElem? HX.o)
   have c1:w2.cell? ⟨gi,1,none⟩=some (.int .i64 x.is_):=jq0 HGB.o 1
   clear hu hlt cx0 cx1
   by_cases hlo:x.is_<1
   ·have j1:decide (x.is_<1)=true:=decide_eq_true hlo
    go_wp2_with fail
    exact ⟨rfl,.inl ⟨by unfold circ;rw [kz5 _ true j x HX.o (cond_none (by omega))];rfl,rfl,HF.o.trans (HFA.o.mono (fun _ _ e=>e.elim))⟩⟩
   have j1:decide (x.is_<1)=false:=decide_eq_false hlo
   by_cases hhi:4<x.is_
   ·have j2:decide (4<x.is_)=true:=decide_eq_true hhi
    go_wp2_with fail
    exact ⟨rfl,.inl ⟨by unfold circ;rw [kz5 _ true j x HX.o (cond_none (by omega))];rfl,rfl,HF.o.trans (HFA.o.mono (fun _ _ e=>e.elim))⟩⟩
   have j2:decide (4<x.is_)=false:=decide_eq_false hhi
   have HIS:Hid (1≤x.is_∧x.is_≤4):=⟨by omega,by omega⟩
   obtain ⟨m,hm⟩: ∃m:Nat,x.is_-1=(m:Int):=⟨(x.is_-1).toNat,by omega⟩
   have m0:(0:Int)≤(m:Int):=Int.natCast_nonneg _
   have m1:(m:Int)<4:=by omega
   have m2:m<4:=by omega
   have m3:IntKind.i64.wrap (m:Int)=(m:Int):=Go.IntWalk.i64_in _ (by omega)
   have m4:IntKind.i64.wrap (x.is_-1)=(m:Int):=by rw [hm];exact m3
   have HST:Hid ([statusT 1,statusT 2,statusT 3,statusT 4][m]?=some (statusT x.is_)):=by
    have e:x.is_=(m:Int)+1:=by omega
    show _=_
    rw [e]
    match m,m2 with
    |0,_=>rfl
    |1,_=>rfl
    |2,_=>rfl
    |3,_=>rfl
   clear hlo hhi
   by_cases hj0:j=0
   ·subst hj0
    rw [show ifWord 0= [105,102] from rfl]
    have HWD:=hdd trivial
    go_wp2_with fail
    refine (jq3 HW2.o [[105,102]] _ rfl _ _ (by decide) (by have:=HNN.o;have:=HLT.o;show (s.app ts).n+2*1≤lim;omega)).mono ?_
    rintro e w3 ⟨rfl,h1,hf⟩
    have HW3:=hdd h1
    have HGB3:Hid (w3.heap[gi]?=some (.cells #[.string ⟨x.name.toArray⟩,.int .i64 x.is_] 109 (0,0))):=hf.blk HGB.o (fun e=>e (.inr rfl))
    have HF3:Hid (Fr (fun q=> ¬((P q∨q=i)∨q=gi)) w2 w3):=hf
    have HNC:Hid (((s.app ts).app [[105,102]]).n=(s.app ts).n+2):=by show _=_;rw [St.app_n];rfl
    clear h1 hf c1 HWD
    go_wp2_with fail
    refine (name_any HW3.o HNI.o (fun q hq=> .inl (HG.o q hq)) x.name HGB3.o rfl HXL.o (by have:=HNN.o;have:=HLT.o;have:=HNC.o;omega)).mono ?_
    rintro e w4 (⟨ht,rfl,hf⟩|⟨tx,ht,rfl,⟨h1,hb⟩,hf⟩)
    ·exact ⟨rfl,.inl ⟨by unfold circ;rw [kz5 _ true 0 x HX.o (cond_name ht)];rfl,rfl,((HF.o.trans (HFA.o.mono (fun _ _ e=>e.elim))).trans (HF3.o.mono (fun q _ e e2=>e (.inl (.inl e2))))).trans (hf.mono (fun q _ e e2=>e (.inl e2)))⟩⟩
    have hl:=jx7 _ ht
    have HAN:Hid (conds true (h.conds.take (0+1))=some (ts++([ifWord 0]++(tx++ [statusT x.is_])))):=conds_take HX.o HA.o HIS.o ht
    have HTN:Hid ((ts++([ifWord 0]++(tx++ [statusT x.is_]))).length≤3*(0+1)):=by show _≤_;simp only [List.length_append,List.length_cons,List.length_nil];have:=HTL.o;omega
    have HW4:=hdd h1
    have HGB4:Hid (w4.heap[gi]?=some (.cells #[.string ⟨#[]⟩,.int .i64 x.is_] 109 (0,0))):=hb
    have HF4:Hid (Fr (fun q=> ¬(P q∨q=i)) w2 w4):=(HF3.o.mono (fun q _ e e2=>e (.inl e2))).trans hf
    have d1:w4.cell? ⟨gi,1,none⟩=some (.int .i64 x.is_):=jq0 HGB4.o 1
    have e1:w4.cell? ⟨0,m,none⟩=some (.string ⟨(statusT x.is_).toArray⟩):=HW4.o.env.st m _ HST.o
    have HN4:Hid ((((s.app ts).app [[105,102]]).app tx).n≤(s.app ts).n+4):=by show _≤_;rw [St.app_n,HNC.o];omega
    clear h1 hf hb ht
    go_wp2_with fail
    refine (jq3 HW4.o [statusT x.is_] _ rfl _ _ (fun y hy=>by rw [List.mem_singleton.1 hy];exact status_len _) (by have:=HNN.o;have:=HLT.o;have:=HN4.o;show (((s.app ts).app [[105,102]]).app tx).n+2*1≤lim;omega)).mono ?_
    rintro e w5 ⟨rfl,h1,hf⟩
    have HWN:Hid (WQ P i G b k (s.app (ts++([ifWord 0]++(tx++ [statusT x.is_])))) w5):=by
     have e:ifWord 0= [105,102]:=rfl
     rw [e,←St.app_app,←St.app_app,←St.app_app]
     exact h1.mono (fun q hq=> .inl hq) (fun q hq=> .inl (HG.o q hq))
    have HFU:Hid (Fr (fun q=> ¬(P q∨q=i)) w2 w5):=HF4.o.trans (hf.mono (fun q _ e e2=>e (.inl e2)))
    have HBN:Hid (w5.heap[i]?=some (.cells (Rs.icells h (.slice (some ⟨p0,r0,none⟩) h.conds.length cap) d n l).toArray 49 (0,0))):=HFU.o.blk HB2.o (fun e=>e (.inr rfl))
    have HFN:Hid (FN P w w5):=(HF.o.trans (HFA.o.mono (fun _ _ e=>e.elim))).trans (HFU.o.mono (fun q _ e e2=>e (.inl e2)))
    clear h1 hf d1 e1
    go_wp2_with fail
    go_roundw
    case rel=>exact ⟨0+1,_,rfl,by go_num,HLT.o,HAN,HTN,HWN,HBN,HFN⟩
    case measure=>have:=HLT.o;simp [intOf];omega
   have HJ0:=hdd hj0
   have hif:ifWord j= [97,110,100]:=if_neg hj0
   rw [hif]
   clear hj0 hif
   have HWD:=hdd trivial
   go_wp2_with fail
   refine (jq3 HW2.o [[97,110,100]] _ rfl _ _ (by decide) (by have:=HNN.o;have:=HLT.o;show (s.app ts).n+2*1≤lim;omega)).mono ?_
   rintro e w3 ⟨rfl,h1,hf⟩
   have HW3:=hdd h1
   have HGB3:Hid (w3.heap[gi]?=some (.cells #[.string ⟨x.name.toArray⟩,.int .i64 x.is_] 109 (0,0))):=hf.blk HGB.o (fun e=>e (.inr rfl))
   have HF3:Hid (Fr (fun q=> ¬((P q∨q=i)∨q=gi)) w2 w3):=hf
   have HNC:Hid (((s.app ts).app [[97,110,100]]).n=(s.app ts).n+2):=by show _=_;rw [St.app_n];rfl
   clear h1 hf c1 HWD
   go_wp2_with fail
   refine (name_any HW3.o HNI.o (fun q hq=> .inl (HG.o q hq)) x.name HGB3.o rfl HXL.o (by have:=HNN.o;have:=HLT.o;have:=HNC.o;omega)).mono ?_
   rintro e w4 (⟨ht,rfl,hf⟩|⟨tx,ht,rfl,⟨h1,hb⟩,hf⟩)
   ·exact ⟨rfl,.inl ⟨by unfold circ;rw [kz5 _ true j x HX.o (cond_name ht)];rfl,rfl,((HF.o.trans (HFA.o.mono (fun _ _ e=>e.elim))).trans (HF3.o.mono (fun q _ e e2=>e (.inl (.inl e2))))).trans (hf.mono (fun q _ e e2=>e (.inl e2)))⟩⟩
   have hl:=jx7 _ ht
   have HAN:Hid (conds true (h.conds.take (j+1))=some (ts++([ifWord j]++(tx++ [statusT x.is_])))):=conds_take HX.o HA.o HIS.o ht
   have HTN:Hid ((ts++([ifWord j]++(tx++ [statusT x.is_]))).length≤3*(j+1)):=by show _≤_;simp only [List.length_append,List.length_cons,List.length_nil];have:=HTL.o;omega
   have HW4:=hdd h1
   have HGB4:Hid (w4.heap[gi]?=some (.cells #[.string ⟨#[]⟩,.int .i64 x.is_] 109 (0,0))):=hb
   have HF4:Hid (Fr (fun q=> ¬(P q∨q=i)) w2 w4):=(HF3.o.mono (fun q _ e e2=>e (.inl e2))).trans hf
   have d1:w4.cell? ⟨gi,1,none⟩=some (.int .i64 x.is_):=jq0 HGB4.o 1
   have e1:w4.cell? ⟨0,m,none⟩=some (.string ⟨(statusT x.is_).toArray⟩):=HW4.o.env.st m _ HST.o
   have HN4:Hid ((((s.app ts).app [[97,110,100]]).app tx).n≤(s.app ts).n+4):=by show _≤_;rw [St.app_n,HNC.o];omega
   clear h1 hf hb ht
   go_wp2_with fail
   refine (jq3 HW4.o [statusT x.is_] _ rfl _ _ (fun y hy=>by rw [List.mem_singleton.1 hy];exact status_len _) (by have:=HNN.o;have:=HLT.o;have:=HN4.o;show (((s.app ts).app [[97,110,100]]).app tx).n+2*1≤lim;omega)).mono ?_
   rintro e w5 ⟨rfl,h1,hf⟩
   have HWN:Hid (WQ P i G b k (s.app (ts++([ifWord j]++(tx++ [statusT x.is_])))) w5):=by
    have e:ifWord j= [97,110,100]:=if_neg HJ0.o
    rw [e,←St.app_app,←St.app_app,←St.app_app]
    exact h1.mono (fun q hq=> .inl hq) (fun q hq=> .inl (HG.o q hq))
   have HFU:Hid (Fr (fun q=> ¬(P q∨q=i)) w2 w5):=HF4.o.trans (hf.mono (fun q _ e e2=>e (.inl e2)))
   have HBN:Hid (w5.heap[i]?=some (.cells (Rs.icells h (.slice (some ⟨p0,r0,none⟩) h.conds.length cap) d n l).toArray 49 (0,0))):=HFU.o.blk HB2.o (fun e=>e (.inr rfl))
   have HFN:Hid (FN P w w5):=(HF.o.trans (HFA.o.mono (fun _ _ e=>e.elim))).trans (HFU.o.mono (fun q _ e e2=>e (.inl e2)))
   clear h1 hf d1 e1
   go_wp2_with fail
   go_roundw
   case rel=>exact ⟨j+1,_,rfl,by go_num,HLT.o,HAN,HTN,HWN,HBN,HFN⟩
   case measure=>have:=HLT.o;simp [intOf];omega
  ·obtain rfl:j=h.conds.length:=by omega
   rw [List.take_length] at HA
   obtain ⟨s49,HS49⟩: ∃z,Hid (s.app ts=z):=⟨_,rfl⟩
   have HW49:Hid (WQ P i G b k s49 wr):=by rw [←HS49.o];exact HW.o
   have n49:s49.n≤s.n+6*h.conds.length:=by rw [←HS49.o,St.app_n];have:=HTL.o;omega
   obtain ⟨ts50,HTT⟩: ∃z,Hid (ts=z):=⟨_,rfl⟩
   rw [HTT.o] at HA HS49
   have HT50:=HA
   have c50:wr.cell? ⟨i,13,none⟩=some (.slice A h.conds.length cap):=jq0 HB.o 13
   have f50:wr.frozen? ⟨i,13,none⟩=false:=jq1 HB.o 13
   obtain ⟨w50,hw50⟩: ∃u,wr.setCell ⟨i,13,none⟩ (.slice none 0 0)=u:=⟨_,rfl⟩
   have hf:Fr (fun q=>q=i) wr w50:=by rw [←hw50];exact (Fr.refl (fun q=>q=i) wr).setb 13 _
   have HB50:Hid (w50.heap[i]?=some (.cells (Rs.icells ({h with conds:= []}:Rs.Item) (.slice none 0 0) d n l).toArray 49 (0,0))):=by rw [←hw50];exact jq9 HB.o 13 _
   have HF50:Hid (FN P w w50):=HF.o.trans (hf.mono (fun q _ e e2=>by have e:q=i:=e;subst e;exact HI.o e2))
   obtain ⟨s50,hs50⟩: ∃z,s49=z:=⟨_,rfl⟩
   have HS50:Hid (s.app ts50=s50):=by rw [←hs50];exact HS49.o
   have n50:s50.n≤s.n+6*h.conds.length:=by rw [←hs50];exact n49
   have HW50:Hid (WQ P i G b k s50 w50):=by
    rw [←hs50]
    exact HW49.o.fr hf (fun q e=>⟨.inr e,by have e:q=i:=e;subst e;exact Nat.le_of_not_lt fun h=>HI.o (HG.o _ h)⟩)
   clear hf hs50 HTT HW49 HS49 HA HTL HW HB HF hj i1 n49
   go_upto_region 12 with fail
   clear hw50 c50 f50
   by_cases hq61:h.by_= []
   ·have hc61:=hdd hq61
    have cb14:w50.cell? ⟨i,14,none⟩=some (.string ⟨#[]⟩):=(jq0 HB50.o 14).trans (by show some (sv h.by_)=_;rw [hq61])
    have HBY:=hdd hq61
    clear hq61
    by_cases hq62:h.til= []
    ·have hc62:=hdd hq62
     have cb15:w50.cell? ⟨i,15,none⟩=some (.string ⟨#[]⟩):=(jq0 HB50.o 15).trans (by show some (sv h.til)=_;rw [hq62])
     have HTI:=hdd hq62
     clear hq62
     go_wp2_with fail
     first|go_end0|refine bodyPost_ret (results_none rfl _ _ _) rfl ?_
     exact .inr ⟨ts50,(by show circ h=some _;unfold circ;rw [HT50.o,if_pos (⟨HBY.o,HTI.o⟩:h.by_= []∧h.til= [])]<;>(first|rfl|simp [cat,ok])),rfl,⟨(by rw [HS50.o];exact HW50.o),(by unfold circLeft;rw [if_pos (⟨HBY.o,HTI.o⟩:h.by_= []∧h.til= [])];exact HB50.o)⟩,HF50.o⟩
    have hc62:=hdd hq62
    have cb15:w50.cell? ⟨i,15,none⟩=some (.string ⟨h.til.toArray⟩):=jq0 HB50.o 15
    have qb15:(h.til== [])=false:=by simpa using hq62
    have qc15:(h.til != [])=true:=by simpa using hq62
    have HTI:=hdd hq62
    clear hq62
    go_wp2_with fail
    refine (jq3 HW50.o [[112,97,117,115,101,100],[98,121]] _ rfl _ _ (by decide) (by show s50.n+2*2≤lim;omega)).mono ?_
    rintro e w63 ⟨rfl,h1,hf⟩
    clear cb14 cb15 qb15 qc15
    have hl63:([[112,97,117,115,101,100],[98,121]]:List Rs.Bytes).length≤2:=by decide
    obtain ⟨s63,HS63⟩: ∃z,Hid (s50.app [[112,97,117,115,101,100],[98,121]]=z):=⟨_,rfl⟩
    have n63:s63.n≤s50.n+2*2:=by rw [←HS63.o,St.app_n];have:=hl63;omega
    have HW63:Hid (WQ P i G b k s63 w63):=by rw [←HS63.o];exact h1
    have HB63:Hid (w63.heap[i]?=some (.cells ((Rs.icells ({h with conds:= []}:Rs.Item) (.slice none 0 0) d n l).toArray) 49 (0,0))):=hf.blk HB50.o (fun e=>e (.inr rfl))
    have HF63:Hid (FN P w w63):=HF50.o.trans (hf.mono (fun q _ e e2=>e (.inl e2)))
    clear h1 hf
    go_wp2_with fail
    refine (name_any HW63.o HI.o HG.o (h.by_) HB63.o rfl (by exact HO.o.by_) (by omega)).mono ?_
    rintro e w64 (⟨ht,rfl,hf⟩|⟨ts64,ht,rfl,⟨h1,hb⟩,hf⟩)
    ·have ht:name (h.by_)=none:=ht
     exact ⟨rfl,.inl ⟨(by show circ h=none;unfold circ;rw [HT50.o,if_neg (fun e:h.by_= []∧h.til= []=>HTI.o e.2),ht]<;>rfl),rfl,HF63.o.trans hf⟩⟩
    have ht:name (h.by_)=some ts64:=ht
    have hl64:ts64.length≤1:=jx7 _ ht
    have HT64:=hdd ht
    obtain ⟨s64,HS64⟩: ∃z,Hid (s63.app ts64=z):=⟨_,rfl⟩
    have n64:s64.n≤s63.n+2*1:=by rw [←HS64.o,St.app_n];have:=hl64;omega
    have HW64:Hid (WQ P i G b k s64 w64):=by rw [←HS64.o];exact h1
    have HB64:Hid (w64.heap[i]?=some (.cells ((Rs.icells ({{h with conds:= []} with conds:= [],by_:= []}:Rs.Item) (.slice none 0 0) d n l).toArray) 49 (0,0))):=hb
    have HF64:Hid (FN P w w64):=HF63.o.trans hf
    clear hb ht
    clear h1 hf
    go_wp2_with fail
    refine (jq3 HW64.o [[117,110,116,105,108]] _ rfl _ _ (by decide) (by show s64.n+2*1≤lim;omega)).mono ?_
    rintro e w65 ⟨rfl,h1,hf⟩
    have hl65:([[117,110,116,105,108]]:List Rs.Bytes).length≤1:=by decide
    obtain ⟨s65,HS65⟩: ∃z,Hid (s64.app [[117,110,116,105,108]]=z):=⟨_,rfl⟩
    have n65:s65.n≤s64.n+2*1:=by rw [←HS65.o,St.app_n];have:=hl65;omega
    have HW65:Hid (WQ P i G b k s65 w65):=by rw [←HS65.o];exact h1
    have HB65:Hid (w65.heap[i]?=some (.cells ((Rs.icells ({{h with conds:= []} with conds:= [],by_:= []}:Rs.Item) (.slice none 0 0) d n l).toArray) 49 (0,0))):=hf.blk HB64.o (fun e=>e (.inr rfl))
    have HF65:Hid (FN P w w65):=HF64.o.trans (hf.mono (fun q _ e e2=>e (.inl e2)))
    clear h1 hf
    go_wp2_with fail
    refine (name_any HW65.o HI.o HG.o (h.til) HB65.o rfl (by exact HO.o.til) (by omega)).mono ?_
    rintro e w66 (⟨ht,rfl,hf⟩|⟨ts66,ht,rfl,⟨h1,hb⟩,hf⟩)
    ·have ht:name (h.til)=none:=ht
     exact ⟨rfl,.inl ⟨(by show circ h=none;unfold circ;rw [HT50.o,if_neg (fun e:h.by_= []∧h.til= []=>HTI.o e.2),HT64.o,ht]<;>rfl),rfl,HF65.o.trans hf⟩⟩
    have ht:name (h.til)=some ts66:=ht
    have hl66:ts66.length≤1:=jx7 _ ht
    have HT66:=hdd ht
    obtain ⟨s66,HS66⟩: ∃z,Hid (s65.app ts66=z):=⟨_,rfl⟩
    have n66:s66.n≤s65.n+2*1:=by rw [←HS66.o,St.app_n];have:=hl66;omega
    have HW66:Hid (WQ P i G b k s66 w66):=by rw [←HS66.o];exact h1
    have HB66:Hid (w66.heap[i]?=some (.cells ((Rs.icells ({{{h with conds:= []} with conds:= [],by_:= []} with conds:= [],by_:= [],til:= []}:Rs.Item) (.slice none 0 0) d n l).toArray) 49 (0,0))):=hb
    have HF66:Hid (FN P w w66):=HF65.o.trans hf
    clear hb ht
    clear h1 hf
    go_wp2_with fail
    first|go_end0|refine bodyPost_ret (results_none rfl _ _ _) rfl ?_
    exact .inr ⟨ts50++([[112,97,117,115,101,100],[98,121]]++(ts64++([[117,110,116,105,108]]++(ts66)))),(by show circ h=some _;unfold circ;rw [HT50.o,if_neg (fun e:h.by_= []∧h.til= []=>HTI.o e.2),HT64.o,HT66.o]<;>(first|rfl|simp [cat,ok])),rfl,⟨(by rw [←St.app_app,HS50.o,←St.app_app,HS63.o,←St.app_app,HS64.o,←St.app_app,HS65.o,HS66.o];exact HW66.o),(by unfold circLeft;rw [if_neg (fun e:h.by_= []∧h.til= []=>HTI.o e.2)];exact HB66.o)⟩,HF66.o⟩
   have hc61:=hdd hq61
   have cb14:w50.cell? ⟨i,14,none⟩=some (.string ⟨h.by_.toArray⟩):=jq0 HB50.o 14
   have qb14:(h.by_== [])=false:=by simpa using hq61
   have qc14:(h.by_ != [])=true:=by simpa using hq61
   have HBY:=hdd hq61
   clear hq61
   go_wp2_with fail
   refine (jq3 HW50.o [[112,97,117,115,101,100],[98,121]] _ rfl _ _ (by decide) (by show s50.n+2*2≤lim;omega)).mono ?_
   rintro e w67 ⟨rfl,h1,hf⟩
   clear cb14 qb14 qc14
   have hl67:([[112,97,117,115,101,100],[98,121]]:List Rs.Bytes).length≤2:=by decide
   obtain ⟨s67,HS67⟩: ∃z,Hid (s50.app [[112,97,117,115,101,100],[98,121]]=z):=⟨_,rfl⟩
   have n67:s67.n≤s50.n+2*2:=by rw [←HS67.o,St.app_n];have:=hl67;omega
   have HW67:Hid (WQ P i G b k s67 w67):=by rw [←HS67.o];exact h1
   have HB67:Hid (w67.heap[i]?=some (.cells ((Rs.icells ({h with conds:= []}:Rs.Item) (.slice none 0 0) d n l).toArray) 49 (0,0))):=hf.blk HB50.o (fun e=>e (.inr rfl))
   have HF67:Hid (FN P w w67):=HF50.o.trans (hf.mono (fun q _ e e2=>e (.inl e2)))
   clear h1 hf
   go_wp2_with fail
   refine (name_any HW67.o HI.o HG.o (h.by_) HB67.o rfl (by exact HO.o.by_) (by omega)).mono ?_
   rintro e w68 (⟨ht,rfl,hf⟩|⟨ts68,ht,rfl,⟨h1,hb⟩,hf⟩)
   ·have ht:name (h.by_)=none:=ht
    exact ⟨rfl,.inl ⟨(by show circ h=none;unfold circ;rw [HT50.o,if_neg (fun e:h.by_= []∧h.til= []=>HBY.o e.1),ht]<;>rfl),rfl,HF67.o.trans hf⟩⟩
   have ht:name (h.by_)=some ts68:=ht
   have hl68:ts68.length≤1:=jx7 _ ht
   have HT68:=hdd ht
   obtain ⟨s68,HS68⟩: ∃z,Hid (s67.app ts68=z):=⟨_,rfl⟩
   have n68:s68.n≤s67.n+2*1:=by rw [←HS68.o,St.app_n];have:=hl68;omega
   have HW68:Hid (WQ P i G b k s68 w68):=by rw [←HS68.o];exact h1
   have HB68:Hid (w68.heap[i]?=some (.cells ((Rs.icells ({{h with conds:= []} with conds:= [],by_:= []}:Rs.Item) (.slice none 0 0) d n l).toArray) 49 (0,0))):=hb
   have HF68:Hid (FN P w w68):=HF67.o.trans hf
   clear hb ht
   clear h1 hf
   go_wp2_with fail
   refine (jq3 HW68.o [[117,110,116,105,108]] _ rfl _ _ (by decide) (by show s68.n+2*1≤lim;omega)).mono ?_
   rintro e w69 ⟨rfl,h1,hf⟩
   have hl69:([[117,110,116,105,108]]:List Rs.Bytes).length≤1:=by decide
   obtain ⟨s69,HS69⟩: ∃z,Hid (s68.app [[117,110,116,105,108]]=z):=⟨_,rfl⟩
   have n69:s69.n≤s68.n+2*1:=by rw [←HS69.o,St.app_n];have:=hl69;omega
   have HW69:Hid (WQ P i G b k s69 w69):=by rw [←HS69.o];exact h1
   have HB69:Hid (w69.heap[i]?=some (.cells ((Rs.icells ({{h with conds:= []} with conds:= [],by_:= []}:Rs.Item) (.slice none 0 0) d n l).toArray) 49 (0,0))):=hf.blk HB68.o (fun e=>e (.inr rfl))
   have HF69:Hid (FN P w w69):=HF68.o.trans (hf.mono (fun q _ e e2=>e (.inl e2)))
   clear h1 hf
   go_wp2_with fail
   refine (name_any HW69.o HI.o HG.o (h.til) HB69.o rfl (by exact HO.o.til) (by omega)).mono ?_
   rintro e w70 (⟨ht,rfl,hf⟩|⟨ts70,ht,rfl,⟨h1,hb⟩,hf⟩)
   ·have ht:name (h.til)=none:=ht
    exact ⟨rfl,.inl ⟨(by show circ h=none;unfold circ;rw [HT50.o,if_neg (fun e:h.by_= []∧h.til= []=>HBY.o e.1),HT68.o,ht]<;>rfl),rfl,HF69.o.trans hf⟩⟩
   have ht:name (h.til)=some ts70:=ht
   have hl70:ts70.length≤1:=jx7 _ ht
   have HT70:=hdd ht
   obtain ⟨s70,HS70⟩: ∃z,Hid (s69.app ts70=z):=⟨_,rfl⟩
   have n70:s70.n≤s69.n+2*1:=by rw [←HS70.o,St.app_n];have:=hl70;omega
   have HW70:Hid (WQ P i G b k s70 w70):=by rw [←HS70.o];exact h1
   have HB70:Hid (w70.heap[i]?=some (.cells ((Rs.icells ({{{h with conds:= []} with conds:= [],by_:= []} with conds:= [],by_:= [],til:= []}:Rs.Item) (.slice none 0 0) d n l).toArray) 49 (0,0))):=hb
   have HF70:Hid (FN P w w70):=HF69.o.trans hf
   clear hb ht
   clear h1 hf
   go_wp2_with fail
   first|go_end0|refine bodyPost_ret (results_none rfl _ _ _) rfl ?_
   exact .inr ⟨ts50++([[112,97,117,115,101,100],[98,121]]++(ts68++([[117,110,116,105,108]]++(ts70)))),(by show circ h=some _;unfold circ;rw [HT50.o,if_neg (fun e:h.by_= []∧h.til= []=>HBY.o e.1),HT68.o,HT70.o]<;>(first|rfl|simp [cat,ok])),rfl,⟨(by rw [←St.app_app,HS50.o,←St.app_app,HS67.o,←St.app_app,HS68.o,←St.app_app,HS69.o,HS70.o];exact HW70.o),(by unfold circLeft;rw [if_neg (fun e:h.by_= []∧h.til= []=>HBY.o e.1)];exact HB70.o)⟩,HF70.o⟩
theorem cons_any {G:Nat} {P:Nat→Prop} {b:Nat} {k:Value} {s:St} {w:World} {i:Nat} {h:Rs.Item} {c d n l:Value} (hw:WQ P i G b k s w) (hi: ¬P i) (hG: ∀q,q<G→P q) (hb:w.heap[i]?=some (.cells (Rs.icells h c d n l).toArray 49 (0,0))) (ho:Ok h) (hn:s.n+40≤lim):
  Calls Tryz.prog 72 #[.pointer (some ⟨b,0,none⟩),.pointer (some ⟨i,0,none⟩)] w (Out P (cons h) (fun ts w'=>WQ P i G b k (s.app ts) w'∧w'.heap[i]?=some (OI (consLeft h) c d n l)) w):=by
 have HW0:=hdd hw;have HI:=hdd hi;have HG:=hdd hG;have HB0:=hdd hb;have HO:=hdd ho
 have HF0:Hid (FN P w w):=Fr.refl _ _
 clear hw hi hG hb ho
 go_enter Tryz.func72,Tryz.ntmps72
 by_cases hq1:h.sum= []
 ·have hc1:=hdd hq1
  have cb19:w.cell? ⟨i,19,none⟩=some (.string ⟨#[]⟩):=(jq0 HB0.o 19).trans (by show some (sv h.sum)=_;rw [hq1])
  have HSU:=hdd hq1
  clear hq1
  by_cases hq2:h.unit= []
  ·have hc2:=hdd hq2
   have cb18:w.cell? ⟨i,18,none⟩=some (.string ⟨#[]⟩):=(jq0 HB0.o 18).trans (by show some (sv h.unit)=_;rw [hq2])
   have HUN:=hdd hq2
   clear hq2
   by_cases hq3:h.fin=true
   ·have hc3:=hdd hq3
    have cf:w.cell? ⟨i,20,none⟩=some (.bool true):=by rw [←hq3];exact jq0 HB0.o 20
    clear hq3
    go_wp2_with fail
    refine (jq3 HW0.o [[102,105,110,97,108]] _ rfl _ _ (by decide) (by show s.n+2*1≤lim;omega)).mono ?_
    rintro e w4 ⟨rfl,h1,hf⟩
    clear cb19 cb18 cf
    have hl4:([[102,105,110,97,108]]:List Rs.Bytes).length≤1:=by decide
    obtain ⟨s4,HS4⟩: ∃z,Hid (s.app [[102,105,110,97,108]]=z):=⟨_,rfl⟩
    have n4:s4.n≤s.n+2*1:=by rw [←HS4.o,St.app_n];have:=hl4;omega
    have HW4:Hid (WQ P i G b k s4 w4):=by rw [←HS4.o];exact h1
    have HB4:Hid (w4.heap[i]?=some (OI h c d n l)):=hf.blk HB0.o (fun e=>e (.inr rfl))
    have HF4:Hid (FN P w w4):=HF0.o.trans (hf.mono (fun q _ e e2=>e (.inl e2)))
    clear h1 hf
    have c5:w4.cell? ⟨i,20,none⟩=some (.bool h.fin):=jq0 HB4.o _
    have f5:w4.frozen? ⟨i,20,none⟩=false:=jq1 HB4.o _
    obtain ⟨w5,hw5⟩: ∃u,w4.setCell ⟨i,20,none⟩ (.bool false)=u:=⟨_,rfl⟩
    have hf:Fr (fun q=>q=i) w4 w5:=by rw [←hw5];exact (Fr.refl (fun q=>q=i) w4).setb 20 _
    have HB5:Hid (w5.heap[i]?=some (OI {h with fin:=false} c d n l)):=by rw [←hw5];exact jq9 HB4.o 20 _
    have HW5:Hid (WQ P i G b k s4 w5):=HW4.o.fr hf (fun q e=>⟨.inr e,by have e:q=i:=e;subst e;exact Nat.le_of_not_lt fun h=>HI.o (HG.o _ h)⟩)
    have HF5:Hid (FN P w w5):=HF4.o.trans (hf.mono (fun q _ e e2=>by have e:q=i:=e;subst e;exact HI.o e2))
    clear hf
    have s5_:True:=trivial
    obtain ⟨s5,HS5⟩: ∃z,Hid (s4.app []=z):=⟨_,rfl⟩
    have n5:s5.n≤s4.n:=by rw [←HS5.o];exact Nat.le_refl _
    have HW5:Hid (WQ P i G b k s5 w5):=by rw [←HS5.o];exact HW5.o
    go_wp2_with fail
    first|go_end0|refine bodyPost_ret (results_none rfl _ _ _) rfl ?_
    exact .inr ⟨[[102,105,110,97,108]]++([]),(by show cons h=some _;unfold cons;rw [if_pos (⟨HSU.o,HUN.o⟩:h.sum= []∧h.unit= []),if_pos hc3.out]<;>(first|rfl|simp [cat,ok])),rfl,⟨(by rw [←St.app_app,HS4.o,HS5.o];exact HW5.o),(by unfold consLeft;rw [if_pos (⟨HSU.o,HUN.o⟩:h.sum= []∧h.unit= [])];exact HB5.o)⟩,HF5.o⟩
   have hc3:=hdd hq3
   have hqf:h.fin=false:=by simpa using hq3
   have cf:w.cell? ⟨i,20,none⟩=some (.bool false):=by rw [←hqf];exact jq0 HB0.o 20
   have HQF:=hdd hqf
   clear hqf
   clear hq3
   go_wp2_with fail
   first|go_end0|refine bodyPost_ret (results_none rfl _ _ _) rfl ?_
   exact .inr ⟨[],(by show cons h=some _;unfold cons;rw [if_pos (⟨HSU.o,HUN.o⟩:h.sum= []∧h.unit= []),if_neg hc3.out]<;>(first|rfl|simp [cat,ok])),rfl,⟨(by exact HW0.o),(by unfold consLeft;rw [if_pos (⟨HSU.o,HUN.o⟩:h.sum= []∧h.unit= [])];rw [←HQF.o];exact HB0.o)⟩,HF0.o⟩
  have hc2:=hdd hq2
  have cb18:w.cell? ⟨i,18,none⟩=some (.string ⟨h.unit.toArray⟩):=jq0 HB0.o 18
  have qb18:(h.unit== [])=false:=by simpa using hq2
  have qc18:(h.unit != [])=true:=by simpa using hq2
  have HUN:=hdd hq2
  clear hq2
  go_wp2_with fail
  refine (jq3 HW0.o [[118,97,108,117,101]] _ rfl _ _ (by decide) (by show s.n+2*1≤lim;omega)).mono ?_
  rintro e w6 ⟨rfl,h1,hf⟩
  clear cb19 cb18 qb18 qc18
  have hl6:([[118,97,108,117,101]]:List Rs.Bytes).length≤1:=by decide
  obtain ⟨s6,HS6⟩: ∃z,Hid (s.app [[118,97,108,117,101]]=z):=⟨_,rfl⟩
  have n6:s6.n≤s.n+2*1:=by rw [←HS6.o,St.app_n];have:=hl6;omega
  have HW6:Hid (WQ P i G b k s6 w6):=by rw [←HS6.o];exact h1
  have HB6:Hid (w6.heap[i]?=some (OI h c d n l)):=hf.blk HB0.o (fun e=>e (.inr rfl))
  have HF6:Hid (FN P w w6):=HF0.o.trans (hf.mono (fun q _ e e2=>e (.inl e2)))
  clear h1 hf
  have cb19:w6.cell? ⟨i,19,none⟩=some (.string ⟨#[]⟩):=(jq0 HB6.o 19).trans (by show some (sv h.sum)=_;rw [HSU.o])
  go_wp2_with fail
  refine (kq5 HW6.o HI.o HG.o HB6.o (by constructor<;>first|exact HO.o.name|exact HO.o.of_|exact HO.o.act|exact HO.o.by_|exact HO.o.til|exact HO.o.unit|exact HO.o.sum|exact HO.o.give|exact HO.o.to_|exact HO.o.wn|exact HO.o.gn|exact HO.o.conds|exact HO.o.names|exact Nat.zero_le _) (by omega)).mono ?_
  rintro e w8 (⟨ht,rfl,hf⟩|⟨ts8,ht,rfl,⟨h1,hb⟩,hf⟩)
  ·have ht:amount h.num h.unit=none:=ht
   exact ⟨rfl,.inl ⟨(by show cons h=none;unfold cons;rw [if_neg (fun e:h.sum= []∧h.unit= []=>HUN.o e.2),if_pos HSU.o,ht]<;>rfl),rfl,HF6.o.trans hf⟩⟩
  have ht:amount h.num h.unit=some ts8:=ht
  clear cb19
  have hl8:ts8.length≤4:=jj5 _ ht
  have HT8:=hdd ht
  obtain ⟨s8,HS8⟩: ∃z,Hid (s6.app ts8=z):=⟨_,rfl⟩
  have n8:s8.n≤s6.n+2*4:=by rw [←HS8.o,St.app_n];have:=hl8;omega
  have HW8:Hid (WQ P i G b k s8 w8):=by rw [←HS8.o];exact h1
  have HB8:Hid (w8.heap[i]?=some (OI (amountLeft h) c d n l)):=hb
  have HF8:Hid (FN P w w8):=HF6.o.trans hf
  clear hb ht
  clear h1 hf
  go_wp2_with fail
  refine (jq3 HW8.o [[116,111]] _ rfl _ _ (by decide) (by show s8.n+2*1≤lim;omega)).mono ?_
  rintro e w9 ⟨rfl,h1,hf⟩
  have hl9:([[116,111]]:List Rs.Bytes).length≤1:=by decide
  obtain ⟨s9,HS9⟩: ∃z,Hid (s8.app [[116,111]]=z):=⟨_,rfl⟩
  have n9:s9.n≤s8.n+2*1:=by rw [←HS9.o,St.app_n];have:=hl9;omega
  have HW9:Hid (WQ P i G b k s9 w9):=by rw [←HS9.o];exact h1
  have HB9:Hid (w9.heap[i]?=some (OI (amountLeft h) c d n l)):=hf.blk HB8.o (fun e=>e (.inr rfl))
  have HF9:Hid (FN P w w9):=HF8.o.trans (hf.mono (fun q _ e e2=>e (.inl e2)))
  clear h1 hf
  go_wp2_with fail
  refine (name_any HW9.o HI.o HG.o (h.to_) HB9.o rfl (by exact HO.o.to_) (by omega)).mono ?_
  rintro e w10 (⟨ht,rfl,hf⟩|⟨ts10,ht,rfl,⟨h1,hb⟩,hf⟩)
  ·have ht:name (h.to_)=none:=ht
   exact ⟨rfl,.inl ⟨(by show cons h=none;unfold cons;rw [if_neg (fun e:h.sum= []∧h.unit= []=>HUN.o e.2),if_pos HSU.o,HT8.o,ht]<;>rfl),rfl,HF9.o.trans hf⟩⟩
  have ht:name (h.to_)=some ts10:=ht
  have hl10:ts10.length≤1:=jx7 _ ht
  have HT10:=hdd ht
  obtain ⟨s10,HS10⟩: ∃z,Hid (s9.app ts10=z):=⟨_,rfl⟩
  have n10:s10.n≤s9.n+2*1:=by rw [←HS10.o,St.app_n];have:=hl10;omega
  have HW10:Hid (WQ P i G b k s10 w10):=by rw [←HS10.o];exact h1
  have HB10:Hid (w10.heap[i]?=some (OI {amountLeft h with num:=⟨0,0⟩,unit:= [],to_:= []} c d n l)):=hb
  have HF10:Hid (FN P w w10):=HF9.o.trans hf
  clear hb ht
  clear h1 hf
  by_cases hq11:h.fin=true
  ·have hc11:=hdd hq11
   have cf:w10.cell? ⟨i,20,none⟩=some (.bool true):=by rw [←hq11];exact jq0 HB10.o 20
   clear hq11
   go_wp2_with fail
   refine (jq3 HW10.o [[102,105,110,97,108]] _ rfl _ _ (by decide) (by show s10.n+2*1≤lim;omega)).mono ?_
   rintro e w12 ⟨rfl,h1,hf⟩
   clear cf
   have hl12:([[102,105,110,97,108]]:List Rs.Bytes).length≤1:=by decide
   obtain ⟨s12,HS12⟩: ∃z,Hid (s10.app [[102,105,110,97,108]]=z):=⟨_,rfl⟩
   have n12:s12.n≤s10.n+2*1:=by rw [←HS12.o,St.app_n];have:=hl12;omega
   have HW12:Hid (WQ P i G b k s12 w12):=by rw [←HS12.o];exact h1
   have HB12:Hid (w12.heap[i]?=some (OI {amountLeft h with num:=⟨0,0⟩,unit:= [],to_:= []} c d n l)):=hf.blk HB10.o (fun e=>e (.inr rfl))
   have HF12:Hid (FN P w w12):=HF10.o.trans (hf.mono (fun q _ e e2=>e (.inl e2)))
   clear h1 hf
   have c13:w12.cell? ⟨i,20,none⟩=some (.bool h.fin):=jq0 HB12.o _
   have f13:w12.frozen? ⟨i,20,none⟩=false:=jq1 HB12.o _
   obtain ⟨w13,hw13⟩: ∃u,w12.setCell ⟨i,20,none⟩ (.bool false)=u:=⟨_,rfl⟩
   have hf:Fr (fun q=>q=i) w12 w13:=by rw [←hw13];exact (Fr.refl (fun q=>q=i) w12).setb 20 _
   have HB13:Hid (w13.heap[i]?=some (OI {{amountLeft h with num:=⟨0,0⟩,unit:= [],to_:= []} with num:=⟨0,0⟩,unit:= [],to_:= [],fin:=false} c d n l)):=by rw [←hw13];exact jq9 HB12.o 20 _
   have HW13:Hid (WQ P i G b k s12 w13):=HW12.o.fr hf (fun q e=>⟨.inr e,by have e:q=i:=e;subst e;exact Nat.le_of_not_lt fun h=>HI.o (HG.o _ h)⟩)
   have HF13:Hid (FN P w w13):=HF12.o.trans (hf.mono (fun q _ e e2=>by have e:q=i:=e;subst e;exact HI.o e2))
   clear hf
   have s13_:True:=trivial
   obtain ⟨s13,HS13⟩: ∃z,Hid (s12.app []=z):=⟨_,rfl⟩
   have n13:s13.n≤s12.n:=by rw [←HS13.o];exact Nat.le_refl _
   have HW13:Hid (WQ P i G b k s13 w13):=by rw [←HS13.o];exact HW13.o
   go_wp2_with fail
   first|go_end0|refine bodyPost_ret (results_none rfl _ _ _) rfl ?_
   exact .inr ⟨[[118,97,108,117,101]]++(ts8++([[116,111]]++(ts10++([[102,105,110,97,108]]++([]))))),(by show cons h=some _;unfold cons;rw [if_neg (fun e:h.sum= []∧h.unit= []=>HUN.o e.2),if_pos HSU.o,HT8.o,HT10.o,if_pos hc11.out]<;>(first|rfl|simp [cat,ok])),rfl,⟨(by rw [←St.app_app,HS6.o,←St.app_app,HS8.o,←St.app_app,HS9.o,←St.app_app,HS10.o,←St.app_app,HS12.o,HS13.o];exact HW13.o),(by unfold consLeft;rw [if_neg (fun e:h.sum= []∧h.unit= []=>HUN.o e.2),if_pos HSU.o];exact HB13.o)⟩,HF13.o⟩
  have hc11:=hdd hq11
  have hqf:h.fin=false:=by simpa using hq11
  have cf:w10.cell? ⟨i,20,none⟩=some (.bool false):=by rw [←hqf];exact jq0 HB10.o 20
  have HQF:=hdd hqf
  clear hqf
  clear hq11
  go_wp2_with fail
  first|go_end0|refine bodyPost_ret (results_none rfl _ _ _) rfl ?_
  exact .inr ⟨[[118,97,108,117,101]]++(ts8++([[116,111]]++(ts10))),(by show cons h=some _;unfold cons;rw [if_neg (fun e:h.sum= []∧h.unit= []=>HUN.o e.2),if_pos HSU.o,HT8.o,HT10.o,if_neg hc11.out]<;>(first|rfl|simp [cat,ok])),rfl,⟨(by rw [←St.app_app,HS6.o,←St.app_app,HS8.o,←St.app_app,HS9.o,HS10.o];exact HW10.o),(by unfold consLeft;rw [if_neg (fun e:h.sum= []∧h.unit= []=>HUN.o e.2),if_pos HSU.o];rw [←HQF.o];exact HB10.o)⟩,HF10.o⟩
 have hc1:=hdd hq1
 have cb19:w.cell? ⟨i,19,none⟩=some (.string ⟨h.sum.toArray⟩):=jq0 HB0.o 19
 have qb19:(h.sum== [])=false:=by simpa using hq1
 have qc19:(h.sum != [])=true:=by simpa using hq1
 have HSU:=hdd hq1
 clear hq1
 go_wp2_with fail
 refine (jq3 HW0.o [[118,97,108,117,101]] _ rfl _ _ (by decide) (by show s.n+2*1≤lim;omega)).mono ?_
 rintro e w14 ⟨rfl,h1,hf⟩
 clear cb19 qb19 qc19
 have hl14:([[118,97,108,117,101]]:List Rs.Bytes).length≤1:=by decide
 obtain ⟨s14,HS14⟩: ∃z,Hid (s.app [[118,97,108,117,101]]=z):=⟨_,rfl⟩
 have n14:s14.n≤s.n+2*1:=by rw [←HS14.o,St.app_n];have:=hl14;omega
 have HW14:Hid (WQ P i G b k s14 w14):=by rw [←HS14.o];exact h1
 have HB14:Hid (w14.heap[i]?=some (OI h c d n l)):=hf.blk HB0.o (fun e=>e (.inr rfl))
 have HF14:Hid (FN P w w14):=HF0.o.trans (hf.mono (fun q _ e e2=>e (.inl e2)))
 clear h1 hf
 have cb19:w14.cell? ⟨i,19,none⟩=some (.string ⟨h.sum.toArray⟩):=(jq0 HB14.o 19).trans (rfl)
 have qb19:(h.sum== [])=false:=by simpa using HSU.o
 have qc19:(h.sum != [])=true:=by simpa using HSU.o
 go_wp2_with fail
 refine (name_any HW14.o HI.o HG.o (h.sum) HB14.o rfl (by exact HO.o.sum) (by omega)).mono ?_
 rintro e w16 (⟨ht,rfl,hf⟩|⟨ts16,ht,rfl,⟨h1,hb⟩,hf⟩)
 ·have ht:name (h.sum)=none:=ht
  exact ⟨rfl,.inl ⟨(by show cons h=none;unfold cons;rw [if_neg (fun e:h.sum= []∧h.unit= []=>HSU.o e.1),if_neg HSU.o,ht]<;>rfl),rfl,HF14.o.trans hf⟩⟩
 have ht:name (h.sum)=some ts16:=ht
 clear cb19 qb19 qc19
 have hl16:ts16.length≤1:=jx7 _ ht
 have HT16:=hdd ht
 obtain ⟨s16,HS16⟩: ∃z,Hid (s14.app ts16=z):=⟨_,rfl⟩
 have n16:s16.n≤s14.n+2*1:=by rw [←HS16.o,St.app_n];have:=hl16;omega
 have HW16:Hid (WQ P i G b k s16 w16):=by rw [←HS16.o];exact h1
 have HB16:Hid (w16.heap[i]?=some (OI {h with sum:= []} c d n l)):=hb
 have HF16:Hid (FN P w w16):=HF14.o.trans hf
 clear hb ht
 clear h1 hf
 go_wp2_with fail
 refine (jq3 HW16.o [[116,111]] _ rfl _ _ (by decide) (by show s16.n+2*1≤lim;omega)).mono ?_
 rintro e w17 ⟨rfl,h1,hf⟩
 have hl17:([[116,111]]:List Rs.Bytes).length≤1:=by decide
 obtain ⟨s17,HS17⟩: ∃z,Hid (s16.app [[116,111]]=z):=⟨_,rfl⟩
 have n17:s17.n≤s16.n+2*1:=by rw [←HS17.o,St.app_n];have:=hl17;omega
 have HW17:Hid (WQ P i G b k s17 w17):=by rw [←HS17.o];exact h1
 have HB17:Hid (w17.heap[i]?=some (OI {h with sum:= []} c d n l)):=hf.blk HB16.o (fun e=>e (.inr rfl))
 have HF17:Hid (FN P w w17):=HF16.o.trans (hf.mono (fun q _ e e2=>e (.inl e2)))
 clear h1 hf
 go_wp2_with fail
 refine (name_any HW17.o HI.o HG.o (h.to_) HB17.o rfl (by exact HO.o.to_) (by omega)).mono ?_
 rintro e w18 (⟨ht,rfl,hf⟩|⟨ts18,ht,rfl,⟨h1,hb⟩,hf⟩)
 ·have ht:name (h.to_)=none:=ht
  exact ⟨rfl,.inl ⟨(by show cons h=none;unfold cons;rw [if_neg (fun e:h.sum= []∧h.unit= []=>HSU.o e.1),if_neg HSU.o,HT16.o,ht]<;>rfl),rfl,HF17.o.trans hf⟩⟩
 have ht:name (h.to_)=some ts18:=ht
 have hl18:ts18.length≤1:=jx7 _ ht
 have HT18:=hdd ht
 obtain ⟨s18,HS18⟩: ∃z,Hid (s17.app ts18=z):=⟨_,rfl⟩
 have n18:s18.n≤s17.n+2*1:=by rw [←HS18.o,St.app_n];have:=hl18;omega
 have HW18:Hid (WQ P i G b k s18 w18):=by rw [←HS18.o];exact h1
 have HB18:Hid (w18.heap[i]?=some (OI {{h with sum:= []} with sum:= [],to_:= []} c d n l)):=hb
 have HF18:Hid (FN P w w18):=HF17.o.trans hf
 clear hb ht
 clear h1 hf
 by_cases hq19:h.fin=true
 ·have hc19:=hdd hq19
  have cf:w18.cell? ⟨i,20,none⟩=some (.bool true):=by rw [←hq19];exact jq0 HB18.o 20
  clear hq19
  go_wp2_with fail
  refine (jq3 HW18.o [[102,105,110,97,108]] _ rfl _ _ (by decide) (by show s18.n+2*1≤lim;omega)).mono ?_
  rintro e w20 ⟨rfl,h1,hf⟩
  clear cf
  have hl20:([[102,105,110,97,108]]:List Rs.Bytes).length≤1:=by decide
  obtain ⟨s20,HS20⟩: ∃z,Hid (s18.app [[102,105,110,97,108]]=z):=⟨_,rfl⟩
  have n20:s20.n≤s18.n+2*1:=by rw [←HS20.o,St.app_n];have:=hl20;omega
  have HW20:Hid (WQ P i G b k s20 w20):=by rw [←HS20.o];exact h1
  have HB20:Hid (w20.heap[i]?=some (OI {{h with sum:= []} with sum:= [],to_:= []} c d n l)):=hf.blk HB18.o (fun e=>e (.inr rfl))
  have HF20:Hid (FN P w w20):=HF18.o.trans (hf.mono (fun q _ e e2=>e (.inl e2)))
  clear h1 hf
  have c21:w20.cell? ⟨i,20,none⟩=some (.bool h.fin):=jq0 HB20.o _
  have f21:w20.frozen? ⟨i,20,none⟩=false:=jq1 HB20.o _
  obtain ⟨w21,hw21⟩: ∃u,w20.setCell ⟨i,20,none⟩ (.bool false)=u:=⟨_,rfl⟩
  have hf:Fr (fun q=>q=i) w20 w21:=by rw [←hw21];exact (Fr.refl (fun q=>q=i) w20).setb 20 _
  have HB21:Hid (w21.heap[i]?=some (OI {{{h with sum:= []} with sum:= [],to_:= []} with sum:= [],to_:= [],fin:=false} c d n l)):=by rw [←hw21];exact jq9 HB20.o 20 _
  have HW21:Hid (WQ P i G b k s20 w21):=HW20.o.fr hf (fun q e=>⟨.inr e,by have e:q=i:=e;subst e;exact Nat.le_of_not_lt fun h=>HI.o (HG.o _ h)⟩)
  have HF21:Hid (FN P w w21):=HF20.o.trans (hf.mono (fun q _ e e2=>by have e:q=i:=e;subst e;exact HI.o e2))
  clear hf
  have s21_:True:=trivial
  obtain ⟨s21,HS21⟩: ∃z,Hid (s20.app []=z):=⟨_,rfl⟩
  have n21:s21.n≤s20.n:=by rw [←HS21.o];exact Nat.le_refl _
  have HW21:Hid (WQ P i G b k s21 w21):=by rw [←HS21.o];exact HW21.o
  go_wp2_with fail
  first|go_end0|refine bodyPost_ret (results_none rfl _ _ _) rfl ?_
  exact .inr ⟨[[118,97,108,117,101]]++(ts16++([[116,111]]++(ts18++([[102,105,110,97,108]]++([]))))),(by show cons h=some _;unfold cons;rw [if_neg (fun e:h.sum= []∧h.unit= []=>HSU.o e.1),if_neg HSU.o,HT16.o,HT18.o,if_pos hc19.out]<;>(first|rfl|simp [cat,ok])),rfl,⟨(by rw [←St.app_app,HS14.o,←St.app_app,HS16.o,←St.app_app,HS17.o,←St.app_app,HS18.o,←St.app_app,HS20.o,HS21.o];exact HW21.o),(by unfold consLeft;rw [if_neg (fun e:h.sum= []∧h.unit= []=>HSU.o e.1),if_neg HSU.o];exact HB21.o)⟩,HF21.o⟩
 have hc19:=hdd hq19
 have hqf:h.fin=false:=by simpa using hq19
 have cf:w18.cell? ⟨i,20,none⟩=some (.bool false):=by rw [←hqf];exact jq0 HB18.o 20
 have HQF:=hdd hqf
 clear hqf
 clear hq19
 go_wp2_with fail
 first|go_end0|refine bodyPost_ret (results_none rfl _ _ _) rfl ?_
 exact .inr ⟨[[118,97,108,117,101]]++(ts16++([[116,111]]++(ts18))),(by show cons h=some _;unfold cons;rw [if_neg (fun e:h.sum= []∧h.unit= []=>HSU.o e.1),if_neg HSU.o,HT16.o,HT18.o,if_neg hc19.out]<;>(first|rfl|simp [cat,ok])),rfl,⟨(by rw [←St.app_app,HS14.o,←St.app_app,HS16.o,←St.app_app,HS17.o,HS18.o];exact HW18.o),(by unfold consLeft;rw [if_neg (fun e:h.sum= []∧h.unit= []=>HSU.o e.1),if_neg HSU.o];rw [←HQF.o];exact HB18.o)⟩,HF18.o⟩
theorem cons_le {h:Rs.Item}:LeT (cons h) 8:=(LeT.cat (LeT.ite ((LeT.ok []).mono (by decide:_≤7)) (LeT.cat (LeT.ok [_]) (LeT.cat (LeT.ite jj5 (jx7.mono (by decide))) (LeT.cat (LeT.ok [_]) jx7)))) (LeT.ite (LeT.ok [_]) ((LeT.ok []).mono (by decide)))).mono (by decide)
theorem conds_le: ∀(l:List Rs.Named) (b:Bool),LeT (conds b l) (3*l.length)
 | [],b=>LeT.ok []
 |c::l,b=>by
  unfold conds
  refine (LeT.cat (m:=3) ?_ (conds_le l false)).mono (by rw [List.length_cons];omega)
  unfold cond
  exact LeT.ite (LeT.cat (LeT.ok [_]) (LeT.cat jx7 (LeT.ok [_]))) (LeT.none 3)
theorem kq9 {h:Rs.Item}:LeT (circ h) (3*h.conds.length+5):=LeT.cat (conds_le _ _) (LeT.ite ((LeT.ok []).mono (by decide)) (LeT.cat (LeT.ok [_,_]) (LeT.cat jx7 (LeT.cat (LeT.ok [_]) jx7))))
theorem commas_le {α:Type} {f:α→T} {m:Nat} (hf: ∀x,LeT (f x) m): ∀(l:List α) (b:Bool),LeT (commas f b l) ((m+1)*l.length)
 | [],b=>LeT.ok []
 |x::l,b=>by
  unfold commas
  exact (LeT.cat (LeT.ite (n:=1) ((LeT.ok []).mono (by decide)) (LeT.ok [_])) (LeT.cat (hf x) (commas_le hf l false))).mono (by rw [List.length_cons,Nat.mul_add];omega)
theorem names_le {l:List Rs.Bytes}:LeT (namesT l) (2*l.length+2):=(LeT.cat (LeT.ok [_]) (LeT.cat (commas_le (fun x=>jx7) _ _) (LeT.ok [_]))).mono (by simp;omega)
end Go.Proofs.YtfficindoecpfaaGreatDoor.Pt
