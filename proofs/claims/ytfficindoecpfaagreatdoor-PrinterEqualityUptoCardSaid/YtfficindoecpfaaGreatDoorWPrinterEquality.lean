/-
  PrinterEquality: the walk of the statement.
-/
import Derived.Test.YtfficindoecpfaaGreatDoorPriSameF
import Derived.Test.YtfficindoecpfaaGreatDoorPriShift
set_option maxHeartbeats 64000000
set_option maxRecDepth 100000
set_option linter.unusedVariables false
set_option linter.unusedSimpArgs false
namespace Go.Proofs.YtfficindoecpfaaGreatDoor.Pt
open Go.RowKit Mem Vw
open Ic (RowB DT Lay LayL tsz jv9 jv4)
theorem walk_PrinterEquality {W:World} {x y:Ic.Src} {l r:List DT} {iv rv:Value} (hI:SrcIn W x l iv) (hR:SrcIn W y r rv) (n:Int) (hn:(Lit.int .i64 n).wf=true) (hE:Env W) (hK:Pr.Wks W) (h7:7≤W.heap.size):
  Calls Tryz.prog 6 #[.agg (Rs.scells x.name x.frm x.days iv).toArray,.agg (Rs.scells y.name y.frm y.days rv).toArray,.int .i64 n] W fun e w'=>e= .returned (.bool true)∧Fr (fun _=>False) W w':=by
 obtain ⟨A,cap,hiv,_,_⟩:=hI.lay.slice
 subst hiv
 obtain ⟨B,capb,hrv,_,_⟩:=hR.lay.slice
 subst hrv
 obtain ⟨w0,hw0⟩: ∃u,(W.alloc (.cells (Rs.scells x.name x.frm x.days (.slice A l.length cap)).toArray 26)).alloc (.cells (Rs.scells y.name y.frm y.days (.slice B r.length capb)).toArray 26)=u:=⟨_,rfl⟩
 obtain ⟨ga,HGA⟩: ∃q,Hid (W.heap.size=q):=⟨_,rfl⟩
 obtain ⟨gb,HGB⟩: ∃q,Hid (ga+1=q):=⟨_,rfl⟩
 have HF0:Hid (Fr (fun _=>False) W w0):=by rw [←hw0];exact ((Fr.refl _ W).alloc _).alloc _
 have HA0:Hid (w0.heap[ga]?=some (.cells (Rs.scells x.name x.frm x.days (.slice A l.length cap)).toArray 26 (0,0))):=by rw [←hw0];exact jx1 (jq2 HGA.o.symm) _
 have HB0:Hid (w0.heap[gb]?=some (.cells (Rs.scells y.name y.frm y.days (.slice B r.length capb)).toArray 26 (0,0))):=by rw [←hw0];exact jq2 (by rw [←HGB.o,←HGA.o];simp)
 have HI:=hdd hI;have HR:=hdd hR;have HE:=hdd hE;have HK:=hdd hK;have H7:=hdd h7
 have HW0:=hdd hw0
 clear hw0 hI hR hE hK h7 hn
 go_enter Tryz.func6,Tryz.ntmps6
 go_upto_region 1 with fail
 rw [HW0.o,HGA.o,HGB.o]
 clear HW0
 go_wp2_with fail
 refine (head_any w0 (HE.o.fr HF0.o (fun _ _ e=>e)) (Wks.fr HK.o HF0.o) (Nat.le_trans H7.o HF0.o.size)).mono ?_
 rintro e w1 ⟨rfl,hf⟩
 have HF1:Hid (Fr (fun _=>False) W w1):=HF0.o.trans hf
 have HA1:Hid (w1.heap[ga]?=some (.cells (Rs.scells x.name x.frm x.days (.slice A l.length cap)).toArray 26 (0,0))):=hf.blk HA0.o (fun e=>e)
 have HB1:Hid (w1.heap[gb]?=some (.cells (Rs.scells y.name y.frm y.days (.slice B r.length capb)).toArray 26 (0,0))):=hf.blk HB0.o (fun e=>e)
 clear hf
 go_upto_region 2 with fail
 iterate 1 go_step
 refine wpList_load_row rfl 26 _ rfl ga rfl 26 (Rs.scells x.name x.frm x.days (.slice A l.length cap)).toArray (0,0) _ HA1.o Tryz.underlying26 rfl (info_src _ _ _ _) ?_
 simp only [Act.put,List.setIfInBounds_toArray,List.set_cons_zero,List.set_cons_succ]
 go_wp2_with fail
 refine (light_in (HI.o.fr HF1.o)).mono ?_
 rintro e w2 ⟨b,rfl,hl,hf⟩
 have HF2:Hid (Fr (fun _=>False) W w2):=HF1.o.trans hf
 have HA2:Hid (w2.heap[ga]?=some (.cells (Rs.scells x.name x.frm x.days (.slice A l.length cap)).toArray 26 (0,0))):=hf.blk HA1.o (fun e=>e)
 have HB2:Hid (w2.heap[gb]?=some (.cells (Rs.scells y.name y.frm y.days (.slice B r.length capb)).toArray 26 (0,0))):=hf.blk HB1.o (fun e=>e)
 clear hf
 cases b with
 |false=>
  clear hl
  go_wp2_with fail
  go_ret
  exact ⟨rfl,HF2.o⟩
 |true=>
 have HLA:Hid (Light x l):=hl rfl
 clear hl
 go_wp2_with (refine jz5 (op:=⟨some 20,_,_,_,_,_⟩) ?hw 26 _ rfl gb rfl (Rs.scells y.name y.frm y.days (.slice B r.length capb)) _ _ HB2.o Tryz.underlying26 rfl (info_src _ _ _ _) ?_;(case hw=>rfl))
 refine (light_in (HR.o.fr HF2.o)).mono ?_
 rintro e w3 ⟨b,rfl,hl,hf⟩
 have HF3:Hid (Fr (fun _=>False) W w3):=HF2.o.trans hf
 have HA3:Hid (w3.heap[ga]?=some (.cells (Rs.scells x.name x.frm x.days (.slice A l.length cap)).toArray 26 (0,0))):=hf.blk HA2.o (fun e=>e)
 have HB3:Hid (w3.heap[gb]?=some (.cells (Rs.scells y.name y.frm y.days (.slice B r.length capb)).toArray 26 (0,0))):=hf.blk HB2.o (fun e=>e)
 clear hf
 cases b with
 |false=>
  clear hl
  go_wp2_with fail
  go_ret
  exact ⟨rfl,HF3.o⟩
 |true=>
 have HLB:Hid (Light y r):=hl rfl
 clear hl
 go_upto_region 4 with fail
 iterate 1 go_step
 refine wpList_load_row rfl 26 _ rfl ga rfl 26 (Rs.scells x.name x.frm x.days (.slice A l.length cap)).toArray (0,0) _ HA3.o Tryz.underlying26 rfl (info_src _ _ _ _) ?_
 simp only [Act.put,List.setIfInBounds_toArray,List.set_cons_zero,List.set_cons_succ]
 go_wp2_with fail
 refine (print_in (HI.o.fr HF3.o) HLA.o (HE.o.fr HF3.o (fun _ _ e=>e)) (Nat.le_trans H7.o HF3.o.size)).mono ?_
 rintro e w4 ⟨rfl,hf⟩
 have HF4:Hid (Fr (fun _=>False) W w4):=HF3.o.trans hf
 have HA4:Hid (w4.heap[ga]?=some (.cells (Rs.scells x.name x.frm x.days (.slice A l.length cap)).toArray 26 (0,0))):=hf.blk HA3.o (fun e=>e)
 have HB4:Hid (w4.heap[gb]?=some (.cells (Rs.scells y.name y.frm y.days (.slice B r.length capb)).toArray 26 (0,0))):=hf.blk HB3.o (fun e=>e)
 clear hf
 obtain ⟨F1,HF1x⟩: ∃p,Hid ((printed x).1=p):=⟨_,rfl⟩
 obtain ⟨e1,HE1x⟩: ∃p,Hid ((printed x).2=p):=⟨_,rfl⟩
 rw [HF1x.o,HE1x.o]
 go_upto_region 5 with fail
 iterate 1 go_step
 refine wpList_load_row rfl 26 _ rfl gb rfl 26 (Rs.scells y.name y.frm y.days (.slice B r.length capb)).toArray (0,0) _ HB4.o Tryz.underlying26 rfl (info_src _ _ _ _) ?_
 simp only [Act.put,List.setIfInBounds_toArray,List.set_cons_zero,List.set_cons_succ]
 go_wp2_with fail
 refine (print_in (HR.o.fr HF4.o) HLB.o (HE.o.fr HF4.o (fun _ _ e=>e)) (Nat.le_trans H7.o HF4.o.size)).mono ?_
 rintro e w5 ⟨rfl,hf⟩
 have HF5:Hid (Fr (fun _=>False) W w5):=HF4.o.trans hf
 have HA5:Hid (w5.heap[ga]?=some (.cells (Rs.scells x.name x.frm x.days (.slice A l.length cap)).toArray 26 (0,0))):=hf.blk HA4.o (fun e=>e)
 have HB5:Hid (w5.heap[gb]?=some (.cells (Rs.scells y.name y.frm y.days (.slice B r.length capb)).toArray 26 (0,0))):=hf.blk HB4.o (fun e=>e)
 clear hf
 obtain ⟨F2,HF2x⟩: ∃p,Hid ((printed y).1=p):=⟨_,rfl⟩
 obtain ⟨e2,HE2x⟩: ∃p,Hid ((printed y).2=p):=⟨_,rfl⟩
 rw [HF2x.o,HE2x.o]
 go_upto_region 6 with fail
 iterate 1 go_step
 refine wpList_load_row rfl 26 _ rfl ga rfl 26 (Rs.scells x.name x.frm x.days (.slice A l.length cap)).toArray (0,0) _ HA5.o Tryz.underlying26 rfl (info_src _ _ _ _) ?_
 simp only [Act.put,List.setIfInBounds_toArray,List.set_cons_zero,List.set_cons_succ]
 iterate 3 go_step
 refine wpList_store_row rfl 26 _ _ rfl w5.heap.size (Rs.scells x.name x.frm x.days (.slice A l.length cap)).toArray rfl rfl 26 _ (jq2 rfl) (info_src _ _ _ _) rfl (one_src _ _ _ _ _ _) ?_
 simp only [Act.put,List.setIfInBounds_toArray,List.set_cons_zero,List.set_cons_succ]
 rw [World.setRow_alloc_new]
 obtain ⟨gc,HGC⟩: ∃q,Hid (w5.heap.size=q):=⟨_,rfl⟩
 obtain ⟨w6,hw6⟩: ∃u,w5.alloc (.cells (Rs.scells x.name x.frm x.days (.slice A l.length cap)).toArray 26)=u:=⟨_,rfl⟩
 rw [hw6,HGC.o]
 have hf:Fr (fun _=>False) w5 w6:=by rw [←hw6];exact (Fr.refl _ w5).alloc _
 have HC6:Hid (w6.heap[gc]?=some (.cells (Rs.scells x.name x.frm x.days (.slice A l.length cap)).toArray 26 (0,0))):=by rw [←hw6];exact jq2 HGC.o.symm
 clear hw6
 have HF6:Hid (Fr (fun _=>False) W w6):=HF5.o.trans hf
 have HA6:Hid (w6.heap[ga]?=some (.cells (Rs.scells x.name x.frm x.days (.slice A l.length cap)).toArray 26 (0,0))):=hf.blk HA5.o (fun e=>e)
 have HB6:Hid (w6.heap[gb]?=some (.cells (Rs.scells y.name y.frm y.days (.slice B r.length capb)).toArray 26 (0,0))):=hf.blk HB5.o (fun e=>e)
 clear hf
 have HGW:Hid (W.heap.size≤gc∧ga<gc∧gb<gc):=by
  have h1:=HF5.o.size;have h2:=jq7 HA5.o;have h3:=jq7 HB5.o;have h4:=HGC.o
  exact ⟨by omega,by omega,by omega⟩
 have c5:w6.cell? ⟨ga,5,none⟩=some (.slice A l.length cap):=jq0 HA6.o 5
 go_upto_region 7 with fail
 go_wp2_with fail
 refine (shifted_any n W.heap.size (tsz l) l (.slice A l.length cap) w6 (Nat.le_refl _) HLA.o.size HF6.o.size (HI.o.lay.fr HF6.o (fun _ _ e=>e))).mono ?_
 rintro e w7 ⟨vd,ds,rfl,hq,hlay,hf⟩
 obtain ⟨D,capd,hvd,_,_⟩:=hlay.slice
 subst hvd
 have HQ:=hdd hq;have HLY:=hdd hlay
 have HC7:Hid (w7.heap[gc]?=some (.cells (Rs.scells x.name x.frm x.days (.slice A l.length cap)).toArray 26 (0,0))):=hf.blk HC6.o (fun e=>e)
 have HGC6:Hid (gc<w6.heap.size):=jq7 HC6.o
 clear hq hlay c5
 have HF7:Hid (Fr (fun _=>False) W w7):=HF6.o.trans hf
 have HA7:Hid (w7.heap[ga]?=some (.cells (Rs.scells x.name x.frm x.days (.slice A l.length cap)).toArray 26 (0,0))):=hf.blk HA6.o (fun e=>e)
 have HB7:Hid (w7.heap[gb]?=some (.cells (Rs.scells y.name y.frm y.days (.slice B r.length capb)).toArray 26 (0,0))):=hf.blk HB6.o (fun e=>e)
 clear hf
 have c5:w7.cell? ⟨gc,5,none⟩=some (.slice A l.length cap):=jq0 HC7.o 5
 have f5:w7.frozen? ⟨gc,5,none⟩=false:=jq1 HC7.o 5
 go_upto_region 8 with fail
 obtain ⟨w8,hw8⟩: ∃u,w7.setCell ⟨gc,5,none⟩ (.slice D ds.length capd)=u:=⟨_,rfl⟩
 rw [hw8]
 have hfs:Fr (fun q=>q=gc) w7 w8:=by rw [←hw8];exact (Fr.refl (fun q=>q=gc) w7).setb 5 _
 have HC8:Hid (w8.heap[gc]?=some (.cells (Rs.scells x.name x.frm x.days (.slice D ds.length capd)).toArray 26 (0,0))):=by rw [←hw8];exact jq9 HC7.o 5 _
 have HA8:Hid (w8.heap[ga]?=some (.cells (Rs.scells x.name x.frm x.days (.slice A l.length cap)).toArray 26 (0,0))):=hfs.blk HA7.o (fun e=>by have h1:=HGW.o;have e:ga=gc:=e;omega)
 have HB8:Hid (w8.heap[gb]?=some (.cells (Rs.scells y.name y.frm y.days (.slice B r.length capb)).toArray 26 (0,0))):=hfs.blk HB7.o (fun e=>by have h1:=HGW.o;have e:gb=gc:=e;omega)
 have HF8:Hid (Fr (fun _=>False) W w8):=HF7.o.trans' hfs (fun i hi e=>by have h1:=HGW.o;have e:i=gc:=e;omega)
 have HSD:Hid (SrcIn w8 {x with items:=ds.map DT.tree} ds (.slice D ds.length capd)):=src_pos HI.o HQ.o ((HLY.o.fr hfs (fun g hg e=>by
  have h1:=HGW.o;have h2:=HGC6.o
  have e:g=gc:=e
  rcases hg with hg|hg<;>omega)).mono (fun g hg _=>hg))
 have HLD:Hid (Light {x with items:=ds.map DT.tree} ds):=light_pos HLA.o HQ.o
 have HPR:Hid (printed {x with items:=ds.map DT.tree}=printed x):=printed_pos HI.o HQ.o
 clear hw8 hfs c5 f5 HC6 HC7 HLY HGC6
 iterate 1 go_step
 refine wpList_load_row rfl 26 _ rfl gc rfl 26 (Rs.scells x.name x.frm x.days (.slice D ds.length capd)).toArray (0,0) _ HC8.o Tryz.underlying26 rfl (info_src _ _ _ _) ?_
 simp only [Act.put,List.setIfInBounds_toArray,List.set_cons_zero,List.set_cons_succ]
 go_wp2_with fail
 refine (print_in HSD.o HLD.o (HE.o.fr HF8.o (fun _ _ e=>e)) (Nat.le_trans H7.o HF8.o.size)).mono ?_
 rintro e w9 ⟨rfl,hf⟩
 rw [HPR.o,HF1x.o,HE1x.o]
 have HF9:Hid (Fr (fun _=>False) W w9):=HF8.o.trans hf
 have HA9:Hid (w9.heap[ga]?=some (.cells (Rs.scells x.name x.frm x.days (.slice A l.length cap)).toArray 26 (0,0))):=hf.blk HA8.o (fun e=>e)
 have HB9:Hid (w9.heap[gb]?=some (.cells (Rs.scells y.name y.frm y.days (.slice B r.length capb)).toArray 26 (0,0))):=hf.blk HB8.o (fun e=>e)
 clear hf
 have HT:Hid (∀F G,print x= .ok F→print y= .ok G→(F=G↔EqA x y)):=fun F G h1 h2=>text_iff h1 h2 (h7_of HI.o) (h7_of HR.o)
 have HSAY:Hid (SayF l r (.slice A l.length cap) (.slice B r.length capb) (fun g=>g<w9.heap.size) (fun g=>g<w9.heap.size)):=say_all _ l r _ _ _ _ (Nat.le_refl _) HI.o.bk HR.o.bk
 cases hp:print x with
 |error er=>
  have h1:e1=er:=by rw [←HE1x.o];unfold printed;rw [hp]
  have h2:F1= []:=by rw [←HF1x.o];unfold printed;rw [hp]
  subst h1;subst h2
  clear HF1x HE1x HF2x HE2x HT HSAY
  rcases print_err hp with he|he
  ·subst he
   clear hp
   go_wp2_with fail
   go_ret
   exact ⟨rfl,HF9.o⟩
  ·subst he
   clear hp
   go_wp2_with fail
   go_ret
   exact ⟨rfl,HF9.o⟩
 |ok G1=>
 have h1:e1=0:=by rw [←HE1x.o];unfold printed;rw [hp]
 have h2:F1=G1:=by rw [←HF1x.o];unfold printed;rw [hp]
 subst h1;subst h2
 clear HF1x HE1x
 cases hp2:print y with
 |error er=>
  have h1:e2=er:=by rw [←HE2x.o];unfold printed;rw [hp2]
  have h2:F2= []:=by rw [←HF2x.o];unfold printed;rw [hp2]
  subst h1;subst h2
  clear HF2x HE2x HT HSAY hp
  generalize (⟨F1.toArray⟩:ByteArray)=z1 at*
  rcases print_err hp2 with he|he
  ·subst he
   clear hp2
   go_wp2_with fail
   go_ret
   exact ⟨rfl,HF9.o⟩
  ·subst he
   clear hp2
   go_wp2_with fail
   go_ret
   exact ⟨rfl,HF9.o⟩
 |ok G2=>
 have h1:e2=0:=by rw [←HE2x.o];unfold printed;rw [hp2]
 have h2:F2=G2:=by rw [←HF2x.o];unfold printed;rw [hp2]
 subst h1;subst h2
 have HTT:Hid (F1=F2↔EqA x y):=HT.o _ _ hp hp2
 have HSM:=hdd (same_say x y l r (.slice A l.length cap) (.slice B r.length capb) w9 (fun g=>g<w9.heap.size) (fun g=>g<w9.heap.size) HSAY.o (HI.o.fr HF9.o).lay (HR.o.fr HF9.o).lay)
 have HTR:Hid (l.map DT.tree=x.items∧r.map DT.tree=y.items):=⟨HI.o.tr,HR.o.tr⟩
 clear HF2x HE2x HT HSAY hp hp2
 by_cases hF:F1=F2
 ·have HEA:Hid (EqA x y):=HTT.o.1 hF
  subst hF
  generalize (⟨F1.toArray⟩:ByteArray)=z1 at*
  go_wp2_with (first|(refine jz5 (op:=⟨some 66,_,_,_,_,_⟩) ?hw 26 _ rfl ga rfl (Rs.scells x.name x.frm x.days (.slice A l.length cap)) _ _ HA9.o Tryz.underlying26 rfl (info_src _ _ _ _) ?_;(case hw=>rfl))|(refine jz5 (op:=⟨some 67,_,_,_,_,_⟩) ?hw 26 _ rfl gb rfl (Rs.scells y.name y.frm y.days (.slice B r.length capb)) _ _ HB9.o Tryz.underlying26 rfl (info_src _ _ _ _) ?_;(case hw=>rfl)))
  refine HSM.o.mono ?_
  rintro e w10 ⟨⟨b,rfl,hb⟩,hf⟩
  obtain rfl:b=true:=hb.2 ⟨HEA.o.name,HEA.o.frm,HEA.o.days,by rw [HTR.o.1,HTR.o.2];exact HEA.o.items⟩
  have HF10:Hid (Fr (fun _=>False) W w10):=HF9.o.trans hf
  clear hb hf
  go_wp2_with fail
  go_ret
  exact ⟨rfl,HF10.o⟩
 ·have HNA:Hid (¬EqA x y):=fun h=>hF (HTT.o.2 h)
  have q:((⟨F1.toArray⟩:ByteArray).toList==(⟨F2.toArray⟩:ByteArray).toList)=false:=bytes_ne' (fun e=>hF (kx2 e.symm))
  clear hF HTT
  generalize (⟨F1.toArray⟩:ByteArray)=z1 at*
  generalize (⟨F2.toArray⟩:ByteArray)=z2 at*
  go_wp2_with (first|(refine jz5 (op:=⟨some 66,_,_,_,_,_⟩) ?hw 26 _ rfl ga rfl (Rs.scells x.name x.frm x.days (.slice A l.length cap)) _ _ HA9.o Tryz.underlying26 rfl (info_src _ _ _ _) ?_;(case hw=>rfl))|(refine jz5 (op:=⟨some 67,_,_,_,_,_⟩) ?hw 26 _ rfl gb rfl (Rs.scells y.name y.frm y.days (.slice B r.length capb)) _ _ HB9.o Tryz.underlying26 rfl (info_src _ _ _ _) ?_;(case hw=>rfl)))
  refine HSM.o.mono ?_
  rintro e w10 ⟨⟨b,rfl,hb⟩,hf⟩
  obtain rfl:b=false:=by
   cases b with
   |false=>rfl
   |true=>
    obtain ⟨h1,h2,h3,h4⟩:=hb.1 rfl
    rw [HTR.o.1,HTR.o.2] at h4
    exact absurd ⟨h1,h2,h3,h4⟩ HNA.o
  have HF10:Hid (Fr (fun _=>False) W w10):=HF9.o.trans hf
  clear hb hf
  go_wp2_with fail
  go_ret
  exact ⟨rfl,HF10.o⟩
end Go.Proofs.YtfficindoecpfaaGreatDoor.Pt
