/-
  PrinterCanonical: the walk of the statement.
-/
import Derived.Test.YtfficindoecpfaaGreatDoorPriSay
import Derived.Test.YtfficindoecpfaaGreatDoorPkPriE
import Derived.Test.YtfficindoecpfaaGreatDoorPkCan
set_option maxHeartbeats 64000000
set_option maxRecDepth 100000
set_option linter.unusedVariables false
set_option linter.unusedSimpArgs false
namespace Go.Proofs.YtfficindoecpfaaGreatDoor.Pt
open Go.RowKit Mem Vw
open Ic (RowB DT Lay LayL tsz)
theorem wks_fr {w w':World} (h:Pr.Wks w) (hf:Fr (fun _=>False) w w'):Pr.Wks w':=h.below (hf.below (Nat.le_refl _) (fun _ e=>e.elim))
theorem parse_bad {s:ByteArray} {er:Nat} {p:Int} (h:Pr.parse (Lx.bs s)= .error (er,p)):er≠0:=by
 unfold Pr.parse at h
 cases hl:Lx.lex (Lx.bs s) with
 |error x=>
  obtain ⟨e2,q⟩:=x
  have:=Pr.lex_err_ne hl
  rw [hl] at h
  injection h with h
  injection h with h1 h2
  omega
 |ok ts=>
  rw [hl] at h
  obtain ⟨S1,z,hz⟩: ∃a b,Pr.source ⟨ts,0,0⟩=(a,b):=⟨_,_,rfl⟩
  dsimp only at h
  rw [hz] at h
  dsimp only at h
  by_cases he:z.err=0
  ·rw [if_pos he] at h;cases h
  ·rw [if_neg he] at h
   generalize ((Pr.atOf (Lx.bs s).length z:Nat):Int)=q at h
   generalize z.err=k at h he
   cases h
   exact he
theorem h7_eq: ∀(a b:List Ic.Tree),Al2 EqT a b→(∀x∈a,H7 x)→ ∀y∈b,H7 y
 | [],[],_,_,y,hy=>by cases hy
 |x::a,y::b,h,h7,z,hz=>by
  rcases List.mem_cons.1 hz with rfl|hz
  ·obtain ⟨k1,k2⟩:=h7 x (List.mem_cons_self ..)
   obtain ⟨h1,h2⟩:=h.1
   refine ⟨by rw [show z.h= {x.h with pos:=z.h.pos} from h1];exact k1,fun u hu=>?_⟩
   obtain ⟨m1,m2⟩:=h2.at
   obtain ⟨j,hj⟩:=List.mem_iff_getElem?.1 hu
   have hlt:j<x.l.length:=by have:=(List.getElem?_eq_some_iff.1 hj).1;omega
   have h3:=(m2 j _ u (List.getElem?_eq_getElem hlt) hj).1
   rw [show u.h= {(x.l[j]).h with pos:=u.h.pos} from h3]
   exact k2 _ (List.getElem_mem hlt)
  ·exact h7_eq a b h.2 (fun w hw=>h7 w (List.mem_cons_of_mem _ hw)) z hz
theorem walk_PrinterCanonical (s:ByteArray) (hs:s.size≤maxLen) {W:World} (hE:Env W) (hK:Pr.Wks W) (h7:7≤W.heap.size):
  Calls Tryz.prog 5 #[.string s] W fun e w'=>e= .returned (.bool true)∧Fr (fun _=>False) W w':=by
 unfold maxLen at hs
 have HE:=hdd hE;have HK:=hdd hK;have H7:=hdd h7
 clear hE hK h7
 by_cases h3:3000<s.size
 ·go_enter Tryz.func5,Tryz.ntmps5
  go_wp2_with fail
  refine (head_any W HE.o HK.o H7.o).mono ?_
  rintro e w1 ⟨rfl,hf⟩
  have HF1:=hdd hf;clear hf
  go_wp2_with fail
  go_ret
  exact ⟨rfl,HF1.o⟩
 have hsl:(Lx.bs s).length≤3000:=by rw [Lx.jz0];omega
 cases hp:Pr.parse (Lx.bs s) with
 |error x=>
  obtain ⟨er,p⟩:=x
  have hne:=parse_bad hp
  have be:((er:Int) !=0)=true:=by rw [bne_iff_ne];omega
  have HP:=hdd hp;clear hp
  go_enter Tryz.func5,Tryz.ntmps5
  go_wp2_with fail
  refine (head_any W HE.o HK.o H7.o).mono ?_
  rintro e w1 ⟨rfl,hf⟩
  have HF1:=hdd hf;clear hf
  go_wp2_with fail
  refine (Pr.parse_no s w1 (by omega) (wks_fr HK.o HF1.o) er p HP.o).mono ?_
  rintro e w2 ⟨rfl,hb⟩
  have HF2:Hid (Fr (fun _=>False) W w2):=HF1.o.trans (Fr.of_below hb)
  clear hb
  go_upto_region 5 with (refine wpList_store_row rfl 26 _ _ rfl w2.heap.size (Rs.scells zsrc.name zsrc.frm zsrc.days Vw.nil).toArray rfl rfl 26 _ (jq3 rfl) (info_src _ _ _ _) rfl (one_src _ _ _ _ _ _) ?_;rw [World.setRow_alloc_new])
  have HF3:Hid (Fr (fun _=>False) W (w2.alloc (.cells (Rs.scells zsrc.name zsrc.frm zsrc.days Vw.nil).toArray 26))):=HF2.o.alloc _
  generalize (w2.alloc (.cells (Rs.scells zsrc.name zsrc.frm zsrc.days Vw.nil).toArray 26))=w3 at*
  go_wp2_with fail
  go_ret
  exact ⟨rfl,HF3.o⟩
 |ok S=>
 obtain ⟨G,hG,hH7⟩:=print_parsed hp hsl
 obtain ⟨p1,p2,p3⟩:=printable hG hH7
 obtain ⟨X,hX,hEq⟩:=parse_print hG hH7
 have hG2:print ⟨(rss S).name,(rss S).frm,(rss S).days,(rss X).items⟩= .ok G:=print_eqS (x:=rss S) ⟨rfl,rfl,rfl,hEq.items⟩ hG
 obtain ⟨q1,q2,q3⟩:=printable hG2 (h7_eq _ _ hEq.items hH7)
 have hFl:G.length≤20000:=by obtain ⟨_,_,_,_,_,h⟩:=print_some hG;exact h
 have HSZ:Hid ((⟨G.toArray⟩:ByteArray).size≤9223372036854775807):=by show G.length≤_;omega
 have HPX:Hid (Pr.parse (Lx.bs ⟨G.toArray⟩)= .ok X):=by show Pr.parse (Lx.bs ⟨G.toArray⟩)=_;rw [bs_text];exact hX
 have hpr:printed (rss S)=(G,0):=by unfold printed;rw [hG]
 have hpr2:printed ⟨(rss S).name,(rss S).frm,(rss S).days,(rss X).items⟩=(G,0):=by unfold printed;rw [hG2]
 have HP:=hdd hp;have P1:=hdd p1;have P2:=hdd p2;have P3:=hdd p3;have Q1:=hdd q1;have Q2:=hdd q2;have Q3:=hdd q3
 have HPR:=hdd hpr;have HPR2:=hdd hpr2;have HEQ:=hdd hEq
 clear hp hG hH7 p1 p2 p3 hX hEq hG2 q1 q2 q3 hFl hpr hpr2 hsl
 go_enter Tryz.func5,Tryz.ntmps5
 go_wp2_with fail
 refine (head_any W HE.o HK.o H7.o).mono ?_
 rintro e w1 ⟨rfl,hf⟩
 have HF1:=hdd hf;clear hf
 go_wp2_with fail
 refine (Pr.parse_okv s w1 (by omega) (wks_fr HK.o HF1.o) S HP.o).mono ?_
 rintro e w2 ⟨⟨si,rfl,hv⟩,hb⟩
 obtain ⟨ds,htr,hlay⟩:=lay_of hv
 obtain ⟨A,cap,hsi,_,_⟩:=hlay.slice
 subst hsi
 have HTR:=hdd htr
 have HL2:=hdd hlay
 have HF2:Hid (Fr (fun _=>False) W w2):=HF1.o.trans (Fr.of_below hb)
 clear hv hb htr hlay
 go_upto_region 5 with (refine wpList_store_row rfl 26 _ _ rfl w2.heap.size (Rs.scells (rss S).name (rss S).frm (rss S).days (.slice A ds.length cap)).toArray rfl rfl 26 _ (jq3 rfl) (info_src _ _ _ _) rfl (one_src _ _ _ _ _ _) ?_;rw [World.setRow_alloc_new])
 obtain ⟨g1,HG1⟩: ∃q,Hid (w2.heap.size=q):=⟨_,rfl⟩
 obtain ⟨w3,hw3⟩: ∃u,w2.alloc (.cells (Rs.scells (rss S).name (rss S).frm (rss S).days (.slice A ds.length cap)).toArray 26)=u:=⟨_,rfl⟩
 rw [hw3,HG1.o]
 have hfa:Fr (fun _=>False) w2 w3:=by rw [←hw3];exact (Fr.refl _ w2).alloc _
 have HB3:Hid (w3.heap[g1]?=some (.cells (Rs.scells (rss S).name (rss S).frm (rss S).days (.slice A ds.length cap)).toArray 26 (0,0))):=by rw [←hw3];exact jq3 HG1.o.symm
 have HL3:Hid (LayL (fun q=>q<w3.heap.size) w3 ds (.slice A ds.length cap)):=(HL2.o.fr hfa (fun _ _ e=>e)).mono (fun q hq _=>hq)
 have HF3:Hid (Fr (fun _=>False) W w3):=HF2.o.trans hfa
 clear hw3 hfa
 go_upto_region 7 with fail
 iterate 1 go_step
 refine wpList_load_row rfl 26 _ rfl g1 rfl 26 (Rs.scells (rss S).name (rss S).frm (rss S).days (.slice A ds.length cap)).toArray (0,0) _ HB3.o Tryz.underlying26 rfl (info_src _ _ _ _) ?_
 simp only [Act.put,List.setIfInBounds_toArray,List.set_cons_zero,List.set_cons_succ]
 go_wp2_with fail
 refine (print_tree (x:=rss S) (l:=ds) (iv:= .slice A ds.length cap) (HE.o.fr HF3.o (fun _ _ e=>e)) (Nat.le_trans H7.o HF3.o.size) HL3.o HTR.o P1.o P2.o P3.o).mono ?_
 rintro e w4 ⟨rfl,hf⟩
 rw [HPR.o]
 have HF4:Hid (Fr (fun _=>False) W w4):=HF3.o.trans hf
 have HB4:Hid (w4.heap[g1]?=some (.cells (Rs.scells (rss S).name (rss S).frm (rss S).days (.slice A ds.length cap)).toArray 26 (0,0))):=hf.blk HB3.o (fun e=>e)
 have HL4:Hid (LayL (fun q=>q<w4.heap.size) w4 ds (.slice A ds.length cap)):=(HL3.o.fr hf (fun _ _ e=>e)).mono (fun q hq _=>hq)
 clear hf
 go_wp2_with fail
 refine (Pr.parse_okv _ w4 HSZ.o (wks_fr HK.o HF4.o) X HPX.o).mono ?_
 rintro e w5 ⟨⟨sj,rfl,hv⟩,hb⟩
 obtain ⟨es,htr,hlay⟩:=lay_of hv
 obtain ⟨A2,cap2,hsj,_,_⟩:=hlay.slice
 subst hsj
 have HTX:Hid (es.map DT.tree=(rss X).items):=htr
 have HT2:Hid (Al2 EqT (ds.map DT.tree) (es.map DT.tree)):=by
  show Al2 EqT (ds.map DT.tree) (es.map DT.tree)
  rw [htr,HTR.o]
  exact HEQ.o.items
 have HM5:=hdd hlay
 have hf:Fr (fun _=>False) w4 w5:=Fr.of_below hb
 have HF5:Hid (Fr (fun _=>False) W w5):=HF4.o.trans hf
 have HB5:Hid (w5.heap[g1]?=some (.cells (Rs.scells (rss S).name (rss S).frm (rss S).days (.slice A ds.length cap)).toArray 26 (0,0))):=hf.blk HB4.o (fun e=>e)
 have HL5:Hid (LayL (fun q=>q<w5.heap.size) w5 ds (.slice A ds.length cap)):=(HL4.o.fr hf (fun _ _ e=>e)).mono (fun q hq _=>hq)
 have ec:(Pr.srcells X.name X.frm X.days (.slice A2 es.length cap2)).toArray=(Rs.scells (rss S).name (rss S).frm (rss S).days (.slice A2 es.length cap2)).toArray:=by
  rw [←srcells_rss,HEQ.o.name,HEQ.o.frm,HEQ.o.days]
 rw [ec]
 clear hv hb htr hlay hf ec
 go_upto_region 9 with (refine wpList_store_row rfl 26 _ _ rfl w5.heap.size (Rs.scells (rss S).name (rss S).frm (rss S).days (.slice A2 es.length cap2)).toArray rfl rfl 26 _ (jq3 rfl) (info_src _ _ _ _) rfl (one_src _ _ _ _ _ _) ?_;rw [World.setRow_alloc_new])
 obtain ⟨g2,HG2⟩: ∃q,Hid (w5.heap.size=q):=⟨_,rfl⟩
 obtain ⟨w6,hw6⟩: ∃u,w5.alloc (.cells (Rs.scells (rss S).name (rss S).frm (rss S).days (.slice A2 es.length cap2)).toArray 26)=u:=⟨_,rfl⟩
 rw [hw6,HG2.o]
 have hfa:Fr (fun _=>False) w5 w6:=by rw [←hw6];exact (Fr.refl _ w5).alloc _
 have HC6:Hid (w6.heap[g2]?=some (.cells (Rs.scells (rss S).name (rss S).frm (rss S).days (.slice A2 es.length cap2)).toArray 26 (0,0))):=by rw [←hw6];exact jq3 HG2.o.symm
 have HB6:Hid (w6.heap[g1]?=some (.cells (Rs.scells (rss S).name (rss S).frm (rss S).days (.slice A ds.length cap)).toArray 26 (0,0))):=hfa.blk HB5.o (fun e=>e)
 have HL6:Hid (LayL (fun q=>q<w6.heap.size) w6 ds (.slice A ds.length cap)):=(HL5.o.fr hfa (fun _ _ e=>e)).mono (fun q hq _=>hq)
 have HM6:Hid (LayL (fun q=>q<w6.heap.size) w6 es (.slice A2 es.length cap2)):=(HM5.o.fr hfa (fun _ _ e=>e)).mono (fun q hq _=>hq)
 have HF6:Hid (Fr (fun _=>False) W w6):=HF5.o.trans hfa
 clear hw6 hfa
 iterate 1 go_step
 refine wpList_load_row rfl 26 _ rfl g2 rfl 26 (Rs.scells (rss S).name (rss S).frm (rss S).days (.slice A2 es.length cap2)).toArray (0,0) _ HC6.o Tryz.underlying26 rfl (info_src _ _ _ _) ?_
 simp only [Act.put,List.setIfInBounds_toArray,List.set_cons_zero,List.set_cons_succ]
 go_wp2_with fail
 refine (print_tree (x:=⟨(rss S).name,(rss S).frm,(rss S).days,(rss X).items⟩) (l:=es) (iv:= .slice A2 es.length cap2) (HE.o.fr HF6.o (fun _ _ e=>e)) (Nat.le_trans H7.o HF6.o.size) HM6.o HTX.o Q1.o Q2.o Q3.o).mono ?_
 rintro e w7 ⟨rfl,hf⟩
 rw [HPR2.o]
 have HF7:Hid (Fr (fun _=>False) W w7):=HF6.o.trans hf
 have HC7:Hid (w7.heap[g2]?=some (.cells (Rs.scells (rss S).name (rss S).frm (rss S).days (.slice A2 es.length cap2)).toArray 26 (0,0))):=hf.blk HC6.o (fun e=>e)
 have HB7:Hid (w7.heap[g1]?=some (.cells (Rs.scells (rss S).name (rss S).frm (rss S).days (.slice A ds.length cap)).toArray 26 (0,0))):=hf.blk HB6.o (fun e=>e)
 have HL7:Hid (LayL (fun q=>q<w7.heap.size) w7 ds (.slice A ds.length cap)):=(HL6.o.fr hf (fun _ _ e=>e)).mono (fun q hq _=>hq)
 have HM7:Hid (LayL (fun q=>q<w7.heap.size) w7 es (.slice A2 es.length cap2)):=(HM6.o.fr hf (fun _ _ e=>e)).mono (fun q hq _=>hq)
 clear hf
 go_wp2_with (first|(refine kx1 (op:=⟨some 63,_,_,_,_,_⟩) ?hw 26 _ rfl g2 rfl (Rs.scells (rss S).name (rss S).frm (rss S).days (.slice A2 es.length cap2)) _ _ HC7.o Tryz.underlying26 rfl (info_src _ _ _ _) ?_;(case hw=>rfl))|(refine kx1 (op:=⟨some 64,_,_,_,_,_⟩) ?hw 26 _ rfl g1 rfl (Rs.scells (rss S).name (rss S).frm (rss S).days (.slice A ds.length cap)) _ _ HB7.o Tryz.underlying26 rfl (info_src _ _ _ _) ?_;(case hw=>rfl)))
 refine (same_true (rss S) es ds (.slice A2 es.length cap2) (.slice A ds.length cap) w7 (fun q=>q<w7.heap.size) (fun q=>q<w7.heap.size) (say_trees HT2.o _ _ _ _) HM7.o HL7.o).mono ?_
 rintro e w8 ⟨rfl,hf⟩
 have HF8:Hid (Fr (fun _=>False) W w8):=HF7.o.trans hf
 clear hf
 go_wp2_with fail
 go_ret
 exact ⟨rfl,HF8.o⟩
end Go.Proofs.YtfficindoecpfaaGreatDoor.Pt
