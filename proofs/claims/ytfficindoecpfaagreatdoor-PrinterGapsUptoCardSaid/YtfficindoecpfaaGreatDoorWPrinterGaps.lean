/-
  PrinterGaps: the walk of the statement.
-/
import Derived.Test.YtfficindoecpfaaGreatDoorPkPriF
import Derived.Test.YtfficindoecpfaaGreatDoorPriGapsU
set_option maxHeartbeats 64000000
set_option maxRecDepth 100000
namespace Go.Proofs.YtfficindoecpfaaGreatDoor.Pt
open Go.RowKit Mem Vw
open Ic (RowB DT Lay LayL tsz)
set_option linter.unusedVariables false
set_option linter.unusedSimpArgs false
theorem walk_PrinterGaps {W:World} {x:Ic.Src} {l:List DT} {iv:Value} (hI:SrcIn W x l iv) (hE:Env W) (hK:Pr.Wks W) (h7:7≤W.heap.size):
  Calls Tryz.prog 8 #[.agg (Rs.scells x.name x.frm x.days iv).toArray] W fun e w'=>e= .returned (.bool true)∧Fr (fun _=>False) W w':=by
 obtain ⟨A,cap,hiv,_,_⟩:=hI.lay.slice
 subst hiv
 obtain ⟨w0,hw0⟩: ∃u,W.alloc (.cells (Rs.scells x.name x.frm x.days (.slice A l.length cap)).toArray 26)=u:=⟨_,rfl⟩
 obtain ⟨g,HGG⟩: ∃q,Hid (W.heap.size=q):=⟨_,rfl⟩
 have HF0:Hid (Fr (fun _=>False) W w0):=by rw [←hw0];exact (Fr.refl _ W).alloc _
 have HB0:Hid (w0.heap[g]?=some (.cells (Rs.scells x.name x.frm x.days (.slice A l.length cap)).toArray 26 (0,0))):=by rw [←hw0];exact jq3 HGG.o.symm
 have HI:=hdd hI;have HE:=hdd hE;have HK:=hdd hK;have H7:=hdd h7
 have HW0:=hdd hw0
 clear hw0 hI hE hK h7
 go_enter Tryz.func8,Tryz.ntmps8
 go_upto_region 1 with fail
 rw [HW0.o,HGG.o]
 clear HW0
 go_wp2_with fail
 refine (head_any w0 (HE.o.fr HF0.o (fun _ _ e=>e)) (Wks.fr HK.o HF0.o) (Nat.le_trans H7.o HF0.o.size)).mono ?_
 rintro e w1 ⟨rfl,hf⟩
 have HF1:Hid (Fr (fun _=>False) W w1):=HF0.o.trans hf
 have HB1:Hid (w1.heap[g]?=some (.cells (Rs.scells x.name x.frm x.days (.slice A l.length cap)).toArray 26 (0,0))):=hf.blk HB0.o (fun e=>e)
 clear hf
 go_upto_region 2 with fail
 iterate 1 go_step
 refine wpList_load_row rfl 26 _ rfl g rfl 26 (Rs.scells x.name x.frm x.days (.slice A l.length cap)).toArray (0,0) _ HB1.o Tryz.underlying26 rfl (info_src _ _ _ _) ?_
 simp only [Act.put,List.setIfInBounds_toArray,List.set_cons_zero,List.set_cons_succ]
 go_wp2_with fail
 refine (light_in (HI.o.fr HF1.o)).mono ?_
 rintro e w2 ⟨b,rfl,hl,hf⟩
 have HF2:Hid (Fr (fun _=>False) W w2):=HF1.o.trans hf
 have HB2:Hid (w2.heap[g]?=some (.cells (Rs.scells x.name x.frm x.days (.slice A l.length cap)).toArray 26 (0,0))):=hf.blk HB1.o (fun e=>e)
 clear hf
 cases b with
 |false=>
  clear hl
  go_wp2_with fail
  go_ret
  exact ⟨rfl,HF2.o⟩
 |true=>
 have HLI:Hid (Light x l):=hl rfl
 clear hl
 go_upto_region 4 with fail
 iterate 1 go_step
 refine wpList_load_row rfl 26 _ rfl g rfl 26 (Rs.scells x.name x.frm x.days (.slice A l.length cap)).toArray (0,0) _ HB2.o Tryz.underlying26 rfl (info_src _ _ _ _) ?_
 simp only [Act.put,List.setIfInBounds_toArray,List.set_cons_zero,List.set_cons_succ]
 go_wp2_with fail
 refine (print_in (HI.o.fr HF2.o) HLI.o (HE.o.fr HF2.o (fun _ _ e=>e)) (Nat.le_trans H7.o HF2.o.size)).mono ?_
 rintro e w3 ⟨rfl,hf⟩
 have HF3:Hid (Fr (fun _=>False) W w3):=HF2.o.trans hf
 clear hf
 cases hp:print x with
 |error er=>
  have hpr:printed x=([],er):=by unfold printed;rw [hp]
  rw [hpr]
  have he:(er==0)=false:=beq_eq_false_iff_ne.2 (by rcases print_err hp with e|e<;>omega)
  have he2: ¬er=0:=by rcases print_err hp with e|e<;>omega
  clear hp hpr
  go_wp2_with fail
  go_ret
  exact ⟨rfl,HF3.o⟩
 |ok F=>
 have hpr:printed x=(F,0):=by unfold printed;rw [hp]
 rw [hpr]
 have HG:=hdd (gaps_ok hp)
 have hF:F.length≤20000:=by obtain ⟨_,_,_,_,_,h⟩:=print_some hp;exact h
 have HFL:=hdd hF
 clear hp hpr hF
 have hfl:(F.length:Int)≤20000:=by have:=HFL.o;omega
 have hl1:(1:Int)<(F.length:Int):=by have:=HG.o.len;omega
 have HZ0:Hid (∀h:0<F.length,(F[0]'h).toNat=99):=fun h=>by
  have h1:=HG.o.fst
  rw [List.getElem?_eq_getElem h] at h1
  injection h1 with h1
  rw [h1];rfl
 go_wp2_with fail
 go_loopw [6] (fun i wr=> ∃j:Nat,i= .int .i64 j∧j≤F.length∧wr=w3) (fun i _=>F.length-(intOf i).toNat)
 case atStart=>exact ⟨0,rfl,Nat.zero_le _,rfl⟩
 case round=>
  obtain ⟨j,rfl,hj,rfl⟩:=hrel
  have j1:(0:Int)≤(j:Int):=Int.natCast_nonneg _
  by_cases hlt:j<F.length
  ·have j2:(j:Int)<(F.length:Int):=by omega
   have j3:IntKind.i64.wrap ((j:Int)+1)=(j:Int)+1:=Go.IntWalk.i64_in _ (by omega)
   have HLT:Hid (j<F.length):=hlt
   have hc:=HG.o.chr j F[j] (List.getElem?_eq_getElem hlt)
   have n9: ¬F[j].toNat=9:=fun e=>hc.1 (UInt8.toNat_inj.1 e)
   have n35: ¬F[j].toNat=35:=fun e=>hc.2 (UInt8.toNat_inj.1 e)
   have q9:((((⟨F.toArray⟩:ByteArray)[j]'hlt).toNat:Int)==9)=false:=by show (((F[j]'hlt).toNat:Int)==9)=false;exact beq_eq_false_iff_ne.2 (by omega)
   have p9: ¬((((⟨F.toArray⟩:ByteArray)[j]'hlt).toNat:Int)=9):=by show ¬((F[j]'hlt).toNat:Int)=9;omega
   have q35:((((⟨F.toArray⟩:ByteArray)[j]'hlt).toNat:Int)==35)=false:=by show (((F[j]'hlt).toNat:Int)==35)=false;exact beq_eq_false_iff_ne.2 (by omega)
   have p35: ¬((((⟨F.toArray⟩:ByteArray)[j]'hlt).toNat:Int)=35):=by show ¬((F[j]'hlt).toNat:Int)=35;omega
   clear hc
   by_cases c10:F[j].toNat=10
   ·have hj0:j≠0:=by
     intro e
     subst e
     exact absurd ((HZ0.o hlt).symm.trans c10) (by decide)
    have hjm:j-1<F.length:=by omega
    have hf:=HG.o.feed (j-1) (by rw [show j-1+1=j from by omega,List.getElem?_eq_getElem hlt];exact congrArg some (UInt8.toNat_inj.1 c10)) _ (List.getElem?_eq_getElem hjm)
    have m32: ¬F[j-1].toNat=32:=fun e=>hf.1 (UInt8.toNat_inj.1 e)
    have m10: ¬F[j-1].toNat=10:=fun e=>hf.2 (UInt8.toNat_inj.1 e)
    have k0:(0:Int)<(j:Int):=by omega
    have d0:decide ((0:Int)<(j:Int))=true:=decide_eq_true k0
    have k1:(1:Int)≤(j:Int):=by omega
    have k2:(j:Int)-1<(F.length:Int):=by omega
    have k3:IntKind.i64.wrap ((j:Int)-1)=(j:Int)-1:=Go.IntWalk.i64_in _ (by omega)
    have q10:((((⟨F.toArray⟩:ByteArray)[j]'hlt).toNat:Int)==10)=true:=by show (((F[j]'hlt).toNat:Int)==10)=true;exact beq_iff_eq.2 (by omega)
    have p10:(((⟨F.toArray⟩:ByteArray)[j]'hlt).toNat:Int)=10:=by show ((F[j]'hlt).toNat:Int)=10;exact by omega
    have q32:((((⟨F.toArray⟩:ByteArray)[j]'hlt).toNat:Int)==32)=false:=by show (((F[j]'hlt).toNat:Int)==32)=false;exact beq_eq_false_iff_ne.2 (by omega)
    have p32: ¬(((⟨F.toArray⟩:ByteArray)[j]'hlt).toNat:Int)=32:=by show ¬((F[j]'hlt).toNat:Int)=32;exact by omega
    have q32m:((((⟨F.toArray⟩:ByteArray)[j-1]'hjm).toNat:Int)==32)=false:=by show (((F[j-1]'hjm).toNat:Int)==32)=false;exact beq_eq_false_iff_ne.2 (by omega)
    have p32m: ¬(((⟨F.toArray⟩:ByteArray)[j-1]'hjm).toNat:Int)=32:=by show ¬((F[j-1]'hjm).toNat:Int)=32;exact by omega
    have q10m:((((⟨F.toArray⟩:ByteArray)[j-1]'hjm).toNat:Int)==10)=false:=by show (((F[j-1]'hjm).toNat:Int)==10)=false;exact beq_eq_false_iff_ne.2 (by omega)
    have p10m: ¬(((⟨F.toArray⟩:ByteArray)[j-1]'hjm).toNat:Int)=10:=by show ¬((F[j-1]'hjm).toNat:Int)=10;exact by omega
    clear hf m32 m10 c10 n9 n35 hj0
    go_wp2_with fail
    go_roundw
    case rel=>exact ⟨j+1,by go_num,HLT.o,by trivial⟩
    case measure=>have:=HLT.o;simp [intOf];omega
   by_cases c32:F[j].toNat=32
   ·have hj0:j≠0:=by
     intro e
     subst e
     exact absurd ((HZ0.o hlt).symm.trans c32) (by decide)
    have q10:((((⟨F.toArray⟩:ByteArray)[j]'hlt).toNat:Int)==10)=false:=by show (((F[j]'hlt).toNat:Int)==10)=false;exact beq_eq_false_iff_ne.2 (by omega)
    have p10: ¬(((⟨F.toArray⟩:ByteArray)[j]'hlt).toNat:Int)=10:=by show ¬((F[j]'hlt).toNat:Int)=10;exact by omega
    have q32:((((⟨F.toArray⟩:ByteArray)[j]'hlt).toNat:Int)==32)=true:=by show (((F[j]'hlt).toNat:Int)==32)=true;exact beq_iff_eq.2 (by omega)
    have p32:(((⟨F.toArray⟩:ByteArray)[j]'hlt).toNat:Int)=32:=by show ((F[j]'hlt).toNat:Int)=32;exact by omega
    by_cases hj1:j=1
    ·subst hj1
     clear c10 c32 n9 n35 hj0
     go_wp2_with fail
     go_roundw
     case rel=>exact ⟨2,by go_num,HLT.o,by trivial⟩
     case measure=>have:=HLT.o;simp [intOf];omega
    have hjm:j-1<F.length:=by omega
    have hjn:j-2<F.length:=by omega
    have k0:(1:Int)<(j:Int):=by omega
    have d0:decide ((1:Int)<(j:Int))=true:=decide_eq_true k0
    have k1:(1:Int)≤(j:Int):=by omega
    have k2:(j:Int)-1<(F.length:Int):=by omega
    have k3:IntKind.i64.wrap ((j:Int)-1)=(j:Int)-1:=Go.IntWalk.i64_in _ (by omega)
    have k4:(2:Int)≤(j:Int):=by omega
    have k5:(j:Int)-2<(F.length:Int):=by omega
    have k6:IntKind.i64.wrap ((j:Int)-2)=(j:Int)-2:=Go.IntWalk.i64_in _ (by omega)
    by_cases m32:F[j-1].toNat=32
    ·have hb:=HG.o.blk (j-2) (by rw [show j-2+2=j from by omega,List.getElem?_eq_getElem hlt];exact congrArg some (UInt8.toNat_inj.1 c32)) (by rw [show j-2+1=j-1 from by omega,List.getElem?_eq_getElem hjm];exact congrArg some (UInt8.toNat_inj.1 m32))
     have n10:F[j-2].toNat=10:=by rw [List.getElem?_eq_getElem hjn] at hb;injection hb with hb;rw [hb];rfl
     have q32m:((((⟨F.toArray⟩:ByteArray)[j-1]'hjm).toNat:Int)==32)=true:=by show (((F[j-1]'hjm).toNat:Int)==32)=true;exact beq_iff_eq.2 (by omega)
     have p32m:(((⟨F.toArray⟩:ByteArray)[j-1]'hjm).toNat:Int)=32:=by show ((F[j-1]'hjm).toNat:Int)=32;exact by omega
     have q10n:((((⟨F.toArray⟩:ByteArray)[j-2]'hjn).toNat:Int)==10)=true:=by show (((F[j-2]'hjn).toNat:Int)==10)=true;exact beq_iff_eq.2 (by omega)
     have p10n:(((⟨F.toArray⟩:ByteArray)[j-2]'hjn).toNat:Int)=10:=by show ((F[j-2]'hjn).toNat:Int)=10;exact by omega
     clear hb n10 m32 c10 c32 n9 n35 hj0 hj1
     go_wp2_with fail
     go_roundw
     case rel=>exact ⟨j+1,by go_num,HLT.o,by trivial⟩
     case measure=>have:=HLT.o;simp [intOf];omega
    have q32m:((((⟨F.toArray⟩:ByteArray)[j-1]'hjm).toNat:Int)==32)=false:=by show (((F[j-1]'hjm).toNat:Int)==32)=false;exact beq_eq_false_iff_ne.2 (by omega)
    have p32m: ¬(((⟨F.toArray⟩:ByteArray)[j-1]'hjm).toNat:Int)=32:=by show ¬((F[j-1]'hjm).toNat:Int)=32;exact by omega
    clear m32 c10 c32 n9 n35 hj0 hj1
    go_wp2_with fail
    go_roundw
    case rel=>exact ⟨j+1,by go_num,HLT.o,by trivial⟩
    case measure=>have:=HLT.o;simp [intOf];omega
   have q10:((((⟨F.toArray⟩:ByteArray)[j]'hlt).toNat:Int)==10)=false:=by show (((F[j]'hlt).toNat:Int)==10)=false;exact beq_eq_false_iff_ne.2 (by omega)
   have p10: ¬((((⟨F.toArray⟩:ByteArray)[j]'hlt).toNat:Int)=10):=by show ¬((F[j]'hlt).toNat:Int)=10;omega
   have q32:((((⟨F.toArray⟩:ByteArray)[j]'hlt).toNat:Int)==32)=false:=by show (((F[j]'hlt).toNat:Int)==32)=false;exact beq_eq_false_iff_ne.2 (by omega)
   have p32: ¬((((⟨F.toArray⟩:ByteArray)[j]'hlt).toNat:Int)=32):=by show ¬((F[j]'hlt).toNat:Int)=32;omega
   clear c10 c32 n9 n35
   go_wp2_with fail
   go_roundw
   case rel=>exact ⟨j+1,by go_num,HLT.o,by trivial⟩
   case measure=>have:=HLT.o;simp [intOf];omega
  ·obtain rfl:j=F.length:=by omega
   have hlz:0<F.length:=by omega
   have hlm:F.length-1<F.length:=by omega
   have b0: ¬F[0].toNat=32:=by have h:=HG.o.fst;rw [List.getElem?_eq_getElem hlz] at h;injection h with h;rw [h];decide
   have b1:F[F.length-1].toNat=10:=by have h:=HG.o.last;rw [List.getElem?_eq_getElem hlm] at h;injection h with h;rw [h];rfl
   have d1:decide ((1:Int)<(F.length:Int))=true:=decide_eq_true hl1
   have k0:(0:Int)<(F.length:Int):=by omega
   have k1:(1:Int)≤(F.length:Int):=by omega
   have k2:(F.length:Int)-1<(F.length:Int):=by omega
   have k3:IntKind.i64.wrap ((F.length:Int)-1)=(F.length:Int)-1:=Go.IntWalk.i64_in _ (by omega)
   have qz:((((⟨F.toArray⟩:ByteArray)[0]'hlz).toNat:Int)==32)=false:=by show (((F[0]'hlz).toNat:Int)==32)=false;exact beq_eq_false_iff_ne.2 (by omega)
   have pz: ¬(((⟨F.toArray⟩:ByteArray)[0]'hlz).toNat:Int)=32:=by show ¬((F[0]'hlz).toNat:Int)=32;exact by omega
   have ql:((((⟨F.toArray⟩:ByteArray)[F.length-1]'hlm).toNat:Int)==10)=true:=by show (((F[F.length-1]'hlm).toNat:Int)==10)=true;exact beq_iff_eq.2 (by omega)
   have pl:(((⟨F.toArray⟩:ByteArray)[F.length-1]'hlm).toNat:Int)=10:=by show ((F[F.length-1]'hlm).toNat:Int)=10;exact by omega
   have rz:((((⟨F.toArray⟩:ByteArray)[0]'hlz).toNat:Int) !=32)=true:=by unfold bne;rw [qz];rfl
   clear b0 b1
   go_wp2_with fail
   go_ret
   exact ⟨rfl,HF3.o⟩
end Go.Proofs.YtfficindoecpfaaGreatDoor.Pt
