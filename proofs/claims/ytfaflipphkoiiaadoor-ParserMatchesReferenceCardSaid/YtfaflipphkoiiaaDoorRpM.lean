/-
  What some functions of the reference's parser return (printed by mkrp8.py): item.
-/
import Derived.Test.YtfaflipphkoiiaaDoorPkRpC
set_option maxHeartbeats 64000000
set_option maxRecDepth 100000
set_option linter.unusedVariables false
namespace Go.Proofs.YtfaflipphkoiiaaDoor.Rp
open Go.RowKit Mem Pr
open Lx (Tok isDigit isLetter isSym)
theorem item_p8 (E:Env) (b:Nat) (s:St) (W:World) (h:PW E b s W) (i:Bool) (hk:rkind i s rwords=8) (t:Tok) (r:List Tok) (hr:s.rest=t::r) (he:s.err=0) (hit:s.items≠600) (n:Bytes) (s1:St) (V:Flat) (s2:St) (h1:name ⟨r,s.items+1,0⟩=(n,s1)) (h2:actR n s1=(V,s2)) (hVc:V.conds= []) (hVd:V.dates= []) (hVn:V.names= []):
  Calls Tryd.prog 28 #[.pointer (some ⟨b,0,none⟩),.bool i] W fun e w'=>(∃sc sd sn,e= .returned (.agg (icells {V with pos:=t.pos} sc sd sn nil).toArray)∧FlatOK W.heap.size {V with pos:=t.pos} sc sd sn w')∧After E b s2 W w':=by
 have H1:=hdd h1;clear h1
 have H2:=hdd h2;clear h2
 have hbl:=h.2.2.1
 have hln:=h.1
 have HP:=hdd h;have HK:=hdd hk;have HR0:=hdd hr;have HE0:=hdd he
 have d6: ¬(600:Int)≤(s.items:Int):=by have:=h.2.1;omega
 clear h hk hr he hit
 go_enter Tryd.func28,Tryd.ntmps28
 go_wp2_with fail
 refine (jv1 E b s _ ((After.start HP.o).alloc _).1 i).mono ?_
 rw [HK.o]
 rintro e w1 ⟨rfl,hA⟩
 have HR1:Hid (IB W.heap.size flat0 nil nil nil nil w1):=hA.2.blk (jq5 (by simp)) (by omega)
 have HA1:=hdd (((After.start HP.o).alloc _).trans hA)
 have hs1:W.heap.size<w1.heap.size:=jq7 HR1.o
 clear hA
 obtain ⟨g,HG⟩: ∃q,Hid (w1.heap.size=q):=⟨_,rfl⟩
 obtain ⟨w2,hw2⟩: ∃u,w1.alloc (.cells (icells {flat0 with kind:=8} nil nil nil nil).toArray 57)=u:=⟨_,rfl⟩
 have HI2:Hid (IB g {flat0 with kind:=8} nil nil nil nil w2):=by rw [←hw2];exact jq5 HG.o.symm
 have HA2:Hid (After E b s W w2):=by rw [←hw2];exact HA1.o.alloc _
 have HR2:Hid (IB W.heap.size flat0 nil nil nil nil w2):=by rw [←hw2];exact jq9 HR1.o _
 have hgW:W.heap.size<g:=by have:=HG.o;omega
 have HW2:=hdd hw2
 clear hw2 HA1 HR1
 go_upto_region 2 with (first|(refine wpList_build rfl 57 _ rfl #[(0,.int .i64 ((8:Nat):Int))] ?_ _ (jz6 8 _) ?_;(simp [Act.eval]))|(refine jq4 rfl 57 _ _ rfl rfl (icells {flat0 with kind:=8} nil nil nil nil).toArray rfl (jq6 _ _ _ _ _) (ic1 ..) (by rfl) ?_))
 rw [HW2.o,HG.o]
 clear HW2
 have k0:w2.cell? ⟨g,0,none⟩=some (.int .i64 8):=jq0 HI2.o 0
 go_upto_region 5 with fail
 clear k0
 obtain ⟨_,hit,hb2,hpt,n0,h1',h2',hblk⟩:=id HA2.o.1
 have hd:t::r=E.ts.drop n0:=by rw [←HR0.o];exact h2'
 obtain ⟨hn,hti,hr2⟩:=jz2 hd
 obtain ⟨gt,ot,hAd,hgt,hct⟩:=hpt.2 (by omega)
 obtain ⟨_,_,_,q3⟩:=hct n0 hn
 rw [hti] at q3
 have c0:w2.cell? ⟨b,0,none⟩=some (.slice (some ⟨gt,ot,none⟩) E.ts.length E.cap):=by rw [←hAd];exact jq0 hblk 0
 have c1:w2.cell? ⟨b,1,none⟩=some (.int .i64 (n0:Int)):=jq0 hblk 1
 have x2:w2.cell? ⟨g,2,none⟩=some (.int .i64 0):=jq0 HI2.o 2
 have y2:w2.frozen? ⟨g,2,none⟩=false:=jq1 HI2.o 2
 have i1:(0:Int)≤(n0:Int):=Int.natCast_nonneg _
 have i2:(n0:Int)<(E.ts.length:Int):=by omega
 have hbg:b≠g:=by omega
 have htg:gt≠g:=by omega
 have g0:(w2.setCell ⟨g,2,none⟩ (.int .i64 (t.pos:Int))).drew.cell? ⟨b,0,none⟩=some (.slice (some ⟨gt,ot,none⟩) E.ts.length E.cap):=by
  show (w2.setCell ⟨g,2,none⟩ (.int .i64 (t.pos:Int))).cell? ⟨b,0,none⟩=_
  exact (jz0 hbg).trans c0
 have g1:(w2.setCell ⟨g,2,none⟩ (.int .i64 (t.pos:Int))).drew.cell? ⟨b,1,none⟩=some (.int .i64 (n0:Int)):=by
  show (w2.setCell ⟨g,2,none⟩ (.int .i64 (t.pos:Int))).cell? ⟨b,1,none⟩=_
  exact (jz0 hbg).trans c1
 have g3:(w2.setCell ⟨g,2,none⟩ (.int .i64 (t.pos:Int))).drew.cell? ⟨gt,ot+n0*4+3,none⟩=some (.int .i64 (t.pos:Int)):=by
  show (w2.setCell ⟨g,2,none⟩ (.int .i64 (t.pos:Int))).cell? ⟨gt,ot+n0*4+3,none⟩=_
  exact (jz0 htg).trans q3
 have HBLK:=hdd hblk;have HPT:=hdd hpt;have HRR:=hdd hr2
 clear hblk hpt hr2 hd hti hct h2' hAd
 go_region_held3 (fun w'=>w'.cell? ⟨b,0,none⟩=some (.slice (some ⟨gt,ot,none⟩) E.ts.length E.cap)∧w'.cell? ⟨b,1,none⟩=some (.int .i64 (n0:Int))∧w'.cell? ⟨gt,ot+n0*4+3,none⟩=some (.int .i64 (t.pos:Int))) (first|go_keep|(go_split_ands;refine ⟨?_,?_,?_⟩<;>first|assumption|exact c0|exact c1|exact q3|exact g0|exact g1|exact g3)) (fail)
 clear c0 c1 x2 y2 g0 g1 g3 q3
 obtain ⟨w3,hw3⟩: ∃u,(w2.setCell ⟨g,2,none⟩ (.int .i64 (t.pos:Int))).drewN 1=u:=⟨_,rfl⟩
 have HI3:Hid (IB g {flat0 with kind:=8,pos:=t.pos} nil nil nil nil w3):=by rw [←hw3];exact jx2 (IB.set_pos HI2.o t.pos) 1
 have HR3:Hid (IB W.heap.size flat0 nil nil nil nil w3):=by rw [←hw3];exact jx2 (jq2 HR2.o (by omega) _) 1
 have HB3:Hid (w3.heap[b]?=some (.cells (pcells E n0 s) 71 (0,0))):=by rw [←hw3];exact jx2 (jq2 HBLK.o (by omega) _) 1
 have HF3:Hid (Fr (fun k=>k=b) W w3):=by rw [←hw3];exact (HA2.o.2.setCell (p:=⟨g,2,none⟩) (.inr (by show W.heap.size≤g;omega)) _).drewN 1
 have HW3:Hid ((w2.setCell ⟨g,2,none⟩ (.int .i64 (t.pos:Int))).drew=w3):=hw3
 clear hw3 HI2 HR2 HBLK
 rw [HW3.o]
 clear HW3
 have c1:w3.cell? ⟨b,1,none⟩=some (.int .i64 (n0:Int)):=jq0 HB3.o 1
 have f1:w3.frozen? ⟨b,1,none⟩=false:=jq1 HB3.o 1
 have c3:w3.cell? ⟨b,3,none⟩=some (.int .i64 (s.items:Int)):=jq0 HB3.o 3
 have f3:w3.frozen? ⟨b,3,none⟩=false:=jq1 HB3.o 3
 have w6:IntKind.i64.wrap ((s.items:Int)+1)=(s.items:Int)+1:=IntWalk.i64_in _ (by omega)
 have w7:IntKind.i64.wrap ((n0:Int)+1)=(n0:Int)+1:=IntWalk.i64_in _ (by omega)
 go_upto_region 12 with fail
 obtain ⟨w4,hw4⟩: ∃u,(w3.setCell ⟨b,3,none⟩ (.int .i64 ((s.items:Int)+1))).setCell ⟨b,1,none⟩ (.int .i64 ((n0:Int)+1))=u:=⟨_,rfl⟩
 have HF4:Hid (Fr (fun k=>k=b) W w4):=by rw [←hw4];exact (HF3.o.setb 3 _).setb 1 _
 have HI:Hid (IB g {flat0 with kind:=8,pos:=t.pos} nil nil nil nil w4):=by rw [←hw4];exact jq2 (jq2 HI3.o (by omega) _) (by omega) _
 have HR:Hid (IB W.heap.size flat0 nil nil nil nil w4):=by rw [←hw4];exact jq2 (jq2 HR3.o (by omega) _) (by omega) _
 have HA:Hid (After E b ⟨r,s.items+1,0⟩ W w4):=by
  have hbk:=jv8 HB3.o HE0.o
  rw [hw4,HR0.o] at hbk
  exact ⟨mod_PW HP.o HF4.o (by show s.items+1≤600;omega) (by omega) HRR.o hbk,HF4.o⟩
 rw [hw4]
 clear hw4 HF4 HI3 HR3 HB3 HF3 HA2 c1 f1 c3 f3 w6 w7 HPT HRR
 have k_0:w4.cell? ⟨g,0,none⟩=some (.int .i64 8):=jq0 HI.o 0
 have f_0:w4.frozen? ⟨g,0,none⟩=false:=jq1 HI.o 0
 go_wp2_with fail
 refine (name_any E b ⟨r,s.items+1,0⟩ _ HA.o.1).mono ?_
 rw [H1.o]
 rintro e w5 ⟨rfl,hA⟩
 have GI:Hid (IB g {flat0 with kind:=8,pos:=t.pos} nil nil nil nil w5):=hA.2.blk HI.o (by omega)
 have GR:Hid (IB W.heap.size flat0 nil nil nil nil w5):=hA.2.blk HR.o (by omega)
 have GA:=hdd (HA.o.trans hA)
 clear hA
 try clear k_0 f_0
 clear HI HR HA
 revert GI GR GA;intro HI HR HA
 have k_0:w5.cell? ⟨g,0,none⟩=some (.int .i64 8):=jq0 HI.o 0
 have f_0:w5.frozen? ⟨g,0,none⟩=false:=jq1 HI.o 0
 have k_1:w5.cell? ⟨g,1,none⟩=some (.string ⟨#[]⟩):=jq0 HI.o 1
 have f_1:w5.frozen? ⟨g,1,none⟩=false:=jq1 HI.o 1
 go_wp2_with fail
 refine (act_any E b s1 _ (HA.o.set (i:=1) (by omega) (by omega) (.string ⟨n.toArray⟩)).1 g n t.pos (IB.set_name HI.o n) (by omega)).mono ?_
 rw [H2.o]
 rintro e w6 ⟨rfl,hI,hA⟩
 have GI:Hid (IB g {V with pos:=t.pos} nil nil nil nil w6):=hI
 have GR:Hid (IB W.heap.size flat0 nil nil nil nil w6):=hA.2.blk (jq2 HR.o (by omega) _) (by omega)
 have GA:=hdd ((HA.o.set (i:=1) (by omega) (by omega) (.string ⟨n.toArray⟩)).ptr hA (by omega))
 clear hA hI
 try clear k_0 f_0 k_1 f_1
 clear HI HR HA
 revert GI GR GA;intro HI HR HA
 obtain ⟨w99,hw99,hA99,hl99,ho99⟩:=item_end (g:=flat0) (a1:=nil) (a2:=nil) (a3:=nil) (a4:=nil) HR.o HA.o hbl {V with pos:=t.pos} nil nil nil nil
 have HW99:=hdd hw99;clear hw99
 have HA99:=hdd hA99;clear hA99
 have HL99:=hdd hl99;clear hl99 ho99
 have HI9:Hid (IB g {V with pos:=t.pos} nil nil nil nil _):=HI.o
 have HR9:Hid (IB W.heap.size flat0 nil nil nil nil _):=HR.o
 go_wp2_with (first|(refine wpList_load_mid rfl 57 _ rfl g 0 rfl (icells {V with pos:=t.pos} nil nil nil nil) _ HI9.o.range Tryd.underlying57 rfl (jx6 _ _ _ _ _) ?_)|(refine wpList_store_mid rfl 57 _ _ rfl W.heap.size 0 (icells {V with pos:=t.pos} nil nil nil nil).toArray rfl rfl (HR9.o.there' _ _ _ _ _) (jq6 _ _ _ _ _) (ic1 ..) ?_;rw [HW99.o]))
 exact bodyPost_ret (v:= .agg (icells {V with pos:=t.pos} nil nil nil nil).toArray) (jq8 Tryd.results28 rfl HL99.o) rfl ⟨⟨nil,nil,nil,rfl,FlatOK.nil _ _ _ hVc hVd hVn⟩,HA99.o⟩
theorem item_p9 (E:Env) (b:Nat) (s:St) (W:World) (h:PW E b s W) (i:Bool) (hk:rkind i s rwords=9) (t:Tok) (r:List Tok) (hr:s.rest=t::r) (he:s.err=0) (hit:s.items≠600) (n:Bytes) (s1:St) (V:Flat) (s2:St) (h1:name ⟨r,s.items+1,0⟩=(n,s1)) (h2:dutyR n s1=(V,s2)) (hVd:V.dates= []) (hVn:V.names= []):
  Calls Tryd.prog 28 #[.pointer (some ⟨b,0,none⟩),.bool i] W fun e w'=>(∃sc sd sn,e= .returned (.agg (icells {V with pos:=t.pos} sc sd sn nil).toArray)∧FlatOK W.heap.size {V with pos:=t.pos} sc sd sn w')∧After E b s2 W w':=by
 have H1:=hdd h1;clear h1
 have H2:=hdd h2;clear h2
 have hbl:=h.2.2.1
 have hln:=h.1
 have HP:=hdd h;have HK:=hdd hk;have HR0:=hdd hr;have HE0:=hdd he
 have d6: ¬(600:Int)≤(s.items:Int):=by have:=h.2.1;omega
 clear h hk hr he hit
 go_enter Tryd.func28,Tryd.ntmps28
 go_wp2_with fail
 refine (jv1 E b s _ ((After.start HP.o).alloc _).1 i).mono ?_
 rw [HK.o]
 rintro e w1 ⟨rfl,hA⟩
 have HR1:Hid (IB W.heap.size flat0 nil nil nil nil w1):=hA.2.blk (jq5 (by simp)) (by omega)
 have HA1:=hdd (((After.start HP.o).alloc _).trans hA)
 have hs1:W.heap.size<w1.heap.size:=jq7 HR1.o
 clear hA
 obtain ⟨g,HG⟩: ∃q,Hid (w1.heap.size=q):=⟨_,rfl⟩
 obtain ⟨w2,hw2⟩: ∃u,w1.alloc (.cells (icells {flat0 with kind:=9} nil nil nil nil).toArray 57)=u:=⟨_,rfl⟩
 have HI2:Hid (IB g {flat0 with kind:=9} nil nil nil nil w2):=by rw [←hw2];exact jq5 HG.o.symm
 have HA2:Hid (After E b s W w2):=by rw [←hw2];exact HA1.o.alloc _
 have HR2:Hid (IB W.heap.size flat0 nil nil nil nil w2):=by rw [←hw2];exact jq9 HR1.o _
 have hgW:W.heap.size<g:=by have:=HG.o;omega
 have HW2:=hdd hw2
 clear hw2 HA1 HR1
 go_upto_region 2 with (first|(refine wpList_build rfl 57 _ rfl #[(0,.int .i64 ((9:Nat):Int))] ?_ _ (jz6 9 _) ?_;(simp [Act.eval]))|(refine jq4 rfl 57 _ _ rfl rfl (icells {flat0 with kind:=9} nil nil nil nil).toArray rfl (jq6 _ _ _ _ _) (ic1 ..) (by rfl) ?_))
 rw [HW2.o,HG.o]
 clear HW2
 have k0:w2.cell? ⟨g,0,none⟩=some (.int .i64 9):=jq0 HI2.o 0
 go_upto_region 5 with fail
 clear k0
 obtain ⟨_,hit,hb2,hpt,n0,h1',h2',hblk⟩:=id HA2.o.1
 have hd:t::r=E.ts.drop n0:=by rw [←HR0.o];exact h2'
 obtain ⟨hn,hti,hr2⟩:=jz2 hd
 obtain ⟨gt,ot,hAd,hgt,hct⟩:=hpt.2 (by omega)
 obtain ⟨_,_,_,q3⟩:=hct n0 hn
 rw [hti] at q3
 have c0:w2.cell? ⟨b,0,none⟩=some (.slice (some ⟨gt,ot,none⟩) E.ts.length E.cap):=by rw [←hAd];exact jq0 hblk 0
 have c1:w2.cell? ⟨b,1,none⟩=some (.int .i64 (n0:Int)):=jq0 hblk 1
 have x2:w2.cell? ⟨g,2,none⟩=some (.int .i64 0):=jq0 HI2.o 2
 have y2:w2.frozen? ⟨g,2,none⟩=false:=jq1 HI2.o 2
 have i1:(0:Int)≤(n0:Int):=Int.natCast_nonneg _
 have i2:(n0:Int)<(E.ts.length:Int):=by omega
 have hbg:b≠g:=by omega
 have htg:gt≠g:=by omega
 have g0:(w2.setCell ⟨g,2,none⟩ (.int .i64 (t.pos:Int))).drew.cell? ⟨b,0,none⟩=some (.slice (some ⟨gt,ot,none⟩) E.ts.length E.cap):=by
  show (w2.setCell ⟨g,2,none⟩ (.int .i64 (t.pos:Int))).cell? ⟨b,0,none⟩=_
  exact (jz0 hbg).trans c0
 have g1:(w2.setCell ⟨g,2,none⟩ (.int .i64 (t.pos:Int))).drew.cell? ⟨b,1,none⟩=some (.int .i64 (n0:Int)):=by
  show (w2.setCell ⟨g,2,none⟩ (.int .i64 (t.pos:Int))).cell? ⟨b,1,none⟩=_
  exact (jz0 hbg).trans c1
 have g3:(w2.setCell ⟨g,2,none⟩ (.int .i64 (t.pos:Int))).drew.cell? ⟨gt,ot+n0*4+3,none⟩=some (.int .i64 (t.pos:Int)):=by
  show (w2.setCell ⟨g,2,none⟩ (.int .i64 (t.pos:Int))).cell? ⟨gt,ot+n0*4+3,none⟩=_
  exact (jz0 htg).trans q3
 have HBLK:=hdd hblk;have HPT:=hdd hpt;have HRR:=hdd hr2
 clear hblk hpt hr2 hd hti hct h2' hAd
 go_region_held3 (fun w'=>w'.cell? ⟨b,0,none⟩=some (.slice (some ⟨gt,ot,none⟩) E.ts.length E.cap)∧w'.cell? ⟨b,1,none⟩=some (.int .i64 (n0:Int))∧w'.cell? ⟨gt,ot+n0*4+3,none⟩=some (.int .i64 (t.pos:Int))) (first|go_keep|(go_split_ands;refine ⟨?_,?_,?_⟩<;>first|assumption|exact c0|exact c1|exact q3|exact g0|exact g1|exact g3)) (fail)
 clear c0 c1 x2 y2 g0 g1 g3 q3
 obtain ⟨w3,hw3⟩: ∃u,(w2.setCell ⟨g,2,none⟩ (.int .i64 (t.pos:Int))).drewN 1=u:=⟨_,rfl⟩
 have HI3:Hid (IB g {flat0 with kind:=9,pos:=t.pos} nil nil nil nil w3):=by rw [←hw3];exact jx2 (IB.set_pos HI2.o t.pos) 1
 have HR3:Hid (IB W.heap.size flat0 nil nil nil nil w3):=by rw [←hw3];exact jx2 (jq2 HR2.o (by omega) _) 1
 have HB3:Hid (w3.heap[b]?=some (.cells (pcells E n0 s) 71 (0,0))):=by rw [←hw3];exact jx2 (jq2 HBLK.o (by omega) _) 1
 have HF3:Hid (Fr (fun k=>k=b) W w3):=by rw [←hw3];exact (HA2.o.2.setCell (p:=⟨g,2,none⟩) (.inr (by show W.heap.size≤g;omega)) _).drewN 1
 have HW3:Hid ((w2.setCell ⟨g,2,none⟩ (.int .i64 (t.pos:Int))).drew=w3):=hw3
 clear hw3 HI2 HR2 HBLK
 rw [HW3.o]
 clear HW3
 have c1:w3.cell? ⟨b,1,none⟩=some (.int .i64 (n0:Int)):=jq0 HB3.o 1
 have f1:w3.frozen? ⟨b,1,none⟩=false:=jq1 HB3.o 1
 have c3:w3.cell? ⟨b,3,none⟩=some (.int .i64 (s.items:Int)):=jq0 HB3.o 3
 have f3:w3.frozen? ⟨b,3,none⟩=false:=jq1 HB3.o 3
 have w6:IntKind.i64.wrap ((s.items:Int)+1)=(s.items:Int)+1:=IntWalk.i64_in _ (by omega)
 have w7:IntKind.i64.wrap ((n0:Int)+1)=(n0:Int)+1:=IntWalk.i64_in _ (by omega)
 go_upto_region 12 with fail
 obtain ⟨w4,hw4⟩: ∃u,(w3.setCell ⟨b,3,none⟩ (.int .i64 ((s.items:Int)+1))).setCell ⟨b,1,none⟩ (.int .i64 ((n0:Int)+1))=u:=⟨_,rfl⟩
 have HF4:Hid (Fr (fun k=>k=b) W w4):=by rw [←hw4];exact (HF3.o.setb 3 _).setb 1 _
 have HI:Hid (IB g {flat0 with kind:=9,pos:=t.pos} nil nil nil nil w4):=by rw [←hw4];exact jq2 (jq2 HI3.o (by omega) _) (by omega) _
 have HR:Hid (IB W.heap.size flat0 nil nil nil nil w4):=by rw [←hw4];exact jq2 (jq2 HR3.o (by omega) _) (by omega) _
 have HA:Hid (After E b ⟨r,s.items+1,0⟩ W w4):=by
  have hbk:=jv8 HB3.o HE0.o
  rw [hw4,HR0.o] at hbk
  exact ⟨mod_PW HP.o HF4.o (by show s.items+1≤600;omega) (by omega) HRR.o hbk,HF4.o⟩
 rw [hw4]
 clear hw4 HF4 HI3 HR3 HB3 HF3 HA2 c1 f1 c3 f3 w6 w7 HPT HRR
 have k_0:w4.cell? ⟨g,0,none⟩=some (.int .i64 9):=jq0 HI.o 0
 have f_0:w4.frozen? ⟨g,0,none⟩=false:=jq1 HI.o 0
 go_wp2_with fail
 refine (name_any E b ⟨r,s.items+1,0⟩ _ HA.o.1).mono ?_
 rw [H1.o]
 rintro e w5 ⟨rfl,hA⟩
 have GI:Hid (IB g {flat0 with kind:=9,pos:=t.pos} nil nil nil nil w5):=hA.2.blk HI.o (by omega)
 have GR:Hid (IB W.heap.size flat0 nil nil nil nil w5):=hA.2.blk HR.o (by omega)
 have GA:=hdd (HA.o.trans hA)
 clear hA
 try clear k_0 f_0
 clear HI HR HA
 revert GI GR GA;intro HI HR HA
 have k_0:w5.cell? ⟨g,0,none⟩=some (.int .i64 9):=jq0 HI.o 0
 have f_0:w5.frozen? ⟨g,0,none⟩=false:=jq1 HI.o 0
 have k_1:w5.cell? ⟨g,1,none⟩=some (.string ⟨#[]⟩):=jq0 HI.o 1
 have f_1:w5.frozen? ⟨g,1,none⟩=false:=jq1 HI.o 1
 go_wp2_with fail
 refine (duty_any E b s1 _ (HA.o.set (i:=1) (by omega) (by omega) (.string ⟨n.toArray⟩)).1 g n t.pos (IB.set_name HI.o n) (by omega)).mono ?_
 rw [H2.o]
 rintro e w6 ⟨rfl,⟨sc,hI,hO⟩,hA⟩
 have GI:Hid (IB g {V with pos:=t.pos} sc nil nil nil w6):=hI
 have GR:Hid (IB W.heap.size flat0 nil nil nil nil w6):=hA.2.blk (jq2 HR.o (by omega) _) (by omega)
 have HRW:Hid (w6.ownsRow (g+1) 59 2 sc V.conds.length (V.conds.flatMap cval)):=own_base hO (by have:=jq7 (IB.set_name HI.o n);omega)
 have GA:=hdd ((HA.o.set (i:=1) (by omega) (by omega) (.string ⟨n.toArray⟩)).ptr hA (by omega))
 clear hA hI hO
 try clear k_0 f_0 k_1 f_1
 clear HI HR HA
 revert GI GR GA;intro HI HR HA
 obtain ⟨Ac,cc,hsc⟩:=own_form HRW.o
 subst hsc
 obtain ⟨w99,hw99,hA99,hl99,ho99⟩:=item_end (g:=flat0) (a1:=nil) (a2:=nil) (a3:=nil) (a4:=nil) HR.o HA.o hbl {V with pos:=t.pos} (.slice Ac V.conds.length cc) nil nil nil
 have HRW9:=hdd (own_base (ho99 _ _ _ _ _ _ (by omega) HRW.o) (show W.heap.size≤g+1 by omega))
 have HW99:=hdd hw99;clear hw99
 have HA99:=hdd hA99;clear hA99
 have HL99:=hdd hl99;clear hl99 ho99
 have HI9:Hid (IB g {V with pos:=t.pos} (.slice Ac V.conds.length cc) nil nil nil _):=HI.o
 have HR9:Hid (IB W.heap.size flat0 nil nil nil nil _):=HR.o
 go_wp2_with (first|(refine wpList_load_mid rfl 57 _ rfl g 0 rfl (icells {V with pos:=t.pos} (.slice Ac V.conds.length cc) nil nil nil) _ HI9.o.range Tryd.underlying57 rfl (jx6 _ _ _ _ _) ?_)|(refine wpList_store_mid rfl 57 _ _ rfl W.heap.size 0 (icells {V with pos:=t.pos} (.slice Ac V.conds.length cc) nil nil nil).toArray rfl rfl (HR9.o.there' _ _ _ _ _) (jq6 _ _ _ _ _) (ic1 ..) ?_;rw [HW99.o]))
 exact bodyPost_ret (v:= .agg (icells {V with pos:=t.pos} (.slice Ac V.conds.length cc) nil nil nil).toArray) (jq8 Tryd.results28 rfl HL99.o) rfl ⟨⟨(.slice Ac V.conds.length cc),nil,nil,rfl,⟨HRW9.o,by show World.ownsRow _ _ _ _ _ V.dates.length _;rw [hVd];exact World.ownsRow_nil _ _ _ _,by show World.ownsRow _ _ _ _ _ V.names.length _;rw [hVn];exact World.ownsRow_nil _ _ _ _⟩⟩,HA99.o⟩
theorem item_p10 (E:Env) (b:Nat) (s:St) (W:World) (h:PW E b s W) (i:Bool) (hk:rkind i s rwords=10) (t:Tok) (r:List Tok) (hr:s.rest=t::r) (he:s.err=0) (hit:s.items≠600) (n:Bytes) (s1:St) (V:Flat) (s2:St) (h1:name ⟨r,s.items+1,0⟩=(n,s1)) (h2:banR n s1=(V,s2)) (hVd:V.dates= []) (hVn:V.names= []):
  Calls Tryd.prog 28 #[.pointer (some ⟨b,0,none⟩),.bool i] W fun e w'=>(∃sc sd sn,e= .returned (.agg (icells {V with pos:=t.pos} sc sd sn nil).toArray)∧FlatOK W.heap.size {V with pos:=t.pos} sc sd sn w')∧After E b s2 W w':=by
 have H1:=hdd h1;clear h1
 have H2:=hdd h2;clear h2
 have hbl:=h.2.2.1
 have hln:=h.1
 have HP:=hdd h;have HK:=hdd hk;have HR0:=hdd hr;have HE0:=hdd he
 have d6: ¬(600:Int)≤(s.items:Int):=by have:=h.2.1;omega
 clear h hk hr he hit
 go_enter Tryd.func28,Tryd.ntmps28
 go_wp2_with fail
 refine (jv1 E b s _ ((After.start HP.o).alloc _).1 i).mono ?_
 rw [HK.o]
 rintro e w1 ⟨rfl,hA⟩
 have HR1:Hid (IB W.heap.size flat0 nil nil nil nil w1):=hA.2.blk (jq5 (by simp)) (by omega)
 have HA1:=hdd (((After.start HP.o).alloc _).trans hA)
 have hs1:W.heap.size<w1.heap.size:=jq7 HR1.o
 clear hA
 obtain ⟨g,HG⟩: ∃q,Hid (w1.heap.size=q):=⟨_,rfl⟩
 obtain ⟨w2,hw2⟩: ∃u,w1.alloc (.cells (icells {flat0 with kind:=10} nil nil nil nil).toArray 57)=u:=⟨_,rfl⟩
 have HI2:Hid (IB g {flat0 with kind:=10} nil nil nil nil w2):=by rw [←hw2];exact jq5 HG.o.symm
 have HA2:Hid (After E b s W w2):=by rw [←hw2];exact HA1.o.alloc _
 have HR2:Hid (IB W.heap.size flat0 nil nil nil nil w2):=by rw [←hw2];exact jq9 HR1.o _
 have hgW:W.heap.size<g:=by have:=HG.o;omega
 have HW2:=hdd hw2
 clear hw2 HA1 HR1
 go_upto_region 2 with (first|(refine wpList_build rfl 57 _ rfl #[(0,.int .i64 ((10:Nat):Int))] ?_ _ (jz6 10 _) ?_;(simp [Act.eval]))|(refine jq4 rfl 57 _ _ rfl rfl (icells {flat0 with kind:=10} nil nil nil nil).toArray rfl (jq6 _ _ _ _ _) (ic1 ..) (by rfl) ?_))
 rw [HW2.o,HG.o]
 clear HW2
 have k0:w2.cell? ⟨g,0,none⟩=some (.int .i64 10):=jq0 HI2.o 0
 go_upto_region 5 with fail
 clear k0
 obtain ⟨_,hit,hb2,hpt,n0,h1',h2',hblk⟩:=id HA2.o.1
 have hd:t::r=E.ts.drop n0:=by rw [←HR0.o];exact h2'
 obtain ⟨hn,hti,hr2⟩:=jz2 hd
 obtain ⟨gt,ot,hAd,hgt,hct⟩:=hpt.2 (by omega)
 obtain ⟨_,_,_,q3⟩:=hct n0 hn
 rw [hti] at q3
 have c0:w2.cell? ⟨b,0,none⟩=some (.slice (some ⟨gt,ot,none⟩) E.ts.length E.cap):=by rw [←hAd];exact jq0 hblk 0
 have c1:w2.cell? ⟨b,1,none⟩=some (.int .i64 (n0:Int)):=jq0 hblk 1
 have x2:w2.cell? ⟨g,2,none⟩=some (.int .i64 0):=jq0 HI2.o 2
 have y2:w2.frozen? ⟨g,2,none⟩=false:=jq1 HI2.o 2
 have i1:(0:Int)≤(n0:Int):=Int.natCast_nonneg _
 have i2:(n0:Int)<(E.ts.length:Int):=by omega
 have hbg:b≠g:=by omega
 have htg:gt≠g:=by omega
 have g0:(w2.setCell ⟨g,2,none⟩ (.int .i64 (t.pos:Int))).drew.cell? ⟨b,0,none⟩=some (.slice (some ⟨gt,ot,none⟩) E.ts.length E.cap):=by
  show (w2.setCell ⟨g,2,none⟩ (.int .i64 (t.pos:Int))).cell? ⟨b,0,none⟩=_
  exact (jz0 hbg).trans c0
 have g1:(w2.setCell ⟨g,2,none⟩ (.int .i64 (t.pos:Int))).drew.cell? ⟨b,1,none⟩=some (.int .i64 (n0:Int)):=by
  show (w2.setCell ⟨g,2,none⟩ (.int .i64 (t.pos:Int))).cell? ⟨b,1,none⟩=_
  exact (jz0 hbg).trans c1
 have g3:(w2.setCell ⟨g,2,none⟩ (.int .i64 (t.pos:Int))).drew.cell? ⟨gt,ot+n0*4+3,none⟩=some (.int .i64 (t.pos:Int)):=by
  show (w2.setCell ⟨g,2,none⟩ (.int .i64 (t.pos:Int))).cell? ⟨gt,ot+n0*4+3,none⟩=_
  exact (jz0 htg).trans q3
 have HBLK:=hdd hblk;have HPT:=hdd hpt;have HRR:=hdd hr2
 clear hblk hpt hr2 hd hti hct h2' hAd
 go_region_held3 (fun w'=>w'.cell? ⟨b,0,none⟩=some (.slice (some ⟨gt,ot,none⟩) E.ts.length E.cap)∧w'.cell? ⟨b,1,none⟩=some (.int .i64 (n0:Int))∧w'.cell? ⟨gt,ot+n0*4+3,none⟩=some (.int .i64 (t.pos:Int))) (first|go_keep|(go_split_ands;refine ⟨?_,?_,?_⟩<;>first|assumption|exact c0|exact c1|exact q3|exact g0|exact g1|exact g3)) (fail)
 clear c0 c1 x2 y2 g0 g1 g3 q3
 obtain ⟨w3,hw3⟩: ∃u,(w2.setCell ⟨g,2,none⟩ (.int .i64 (t.pos:Int))).drewN 1=u:=⟨_,rfl⟩
 have HI3:Hid (IB g {flat0 with kind:=10,pos:=t.pos} nil nil nil nil w3):=by rw [←hw3];exact jx2 (IB.set_pos HI2.o t.pos) 1
 have HR3:Hid (IB W.heap.size flat0 nil nil nil nil w3):=by rw [←hw3];exact jx2 (jq2 HR2.o (by omega) _) 1
 have HB3:Hid (w3.heap[b]?=some (.cells (pcells E n0 s) 71 (0,0))):=by rw [←hw3];exact jx2 (jq2 HBLK.o (by omega) _) 1
 have HF3:Hid (Fr (fun k=>k=b) W w3):=by rw [←hw3];exact (HA2.o.2.setCell (p:=⟨g,2,none⟩) (.inr (by show W.heap.size≤g;omega)) _).drewN 1
 have HW3:Hid ((w2.setCell ⟨g,2,none⟩ (.int .i64 (t.pos:Int))).drew=w3):=hw3
 clear hw3 HI2 HR2 HBLK
 rw [HW3.o]
 clear HW3
 have c1:w3.cell? ⟨b,1,none⟩=some (.int .i64 (n0:Int)):=jq0 HB3.o 1
 have f1:w3.frozen? ⟨b,1,none⟩=false:=jq1 HB3.o 1
 have c3:w3.cell? ⟨b,3,none⟩=some (.int .i64 (s.items:Int)):=jq0 HB3.o 3
 have f3:w3.frozen? ⟨b,3,none⟩=false:=jq1 HB3.o 3
 have w6:IntKind.i64.wrap ((s.items:Int)+1)=(s.items:Int)+1:=IntWalk.i64_in _ (by omega)
 have w7:IntKind.i64.wrap ((n0:Int)+1)=(n0:Int)+1:=IntWalk.i64_in _ (by omega)
 go_upto_region 12 with fail
 obtain ⟨w4,hw4⟩: ∃u,(w3.setCell ⟨b,3,none⟩ (.int .i64 ((s.items:Int)+1))).setCell ⟨b,1,none⟩ (.int .i64 ((n0:Int)+1))=u:=⟨_,rfl⟩
 have HF4:Hid (Fr (fun k=>k=b) W w4):=by rw [←hw4];exact (HF3.o.setb 3 _).setb 1 _
 have HI:Hid (IB g {flat0 with kind:=10,pos:=t.pos} nil nil nil nil w4):=by rw [←hw4];exact jq2 (jq2 HI3.o (by omega) _) (by omega) _
 have HR:Hid (IB W.heap.size flat0 nil nil nil nil w4):=by rw [←hw4];exact jq2 (jq2 HR3.o (by omega) _) (by omega) _
 have HA:Hid (After E b ⟨r,s.items+1,0⟩ W w4):=by
  have hbk:=jv8 HB3.o HE0.o
  rw [hw4,HR0.o] at hbk
  exact ⟨mod_PW HP.o HF4.o (by show s.items+1≤600;omega) (by omega) HRR.o hbk,HF4.o⟩
 rw [hw4]
 clear hw4 HF4 HI3 HR3 HB3 HF3 HA2 c1 f1 c3 f3 w6 w7 HPT HRR
 have k_0:w4.cell? ⟨g,0,none⟩=some (.int .i64 10):=jq0 HI.o 0
 have f_0:w4.frozen? ⟨g,0,none⟩=false:=jq1 HI.o 0
 go_wp2_with fail
 refine (name_any E b ⟨r,s.items+1,0⟩ _ HA.o.1).mono ?_
 rw [H1.o]
 rintro e w5 ⟨rfl,hA⟩
 have GI:Hid (IB g {flat0 with kind:=10,pos:=t.pos} nil nil nil nil w5):=hA.2.blk HI.o (by omega)
 have GR:Hid (IB W.heap.size flat0 nil nil nil nil w5):=hA.2.blk HR.o (by omega)
 have GA:=hdd (HA.o.trans hA)
 clear hA
 try clear k_0 f_0
 clear HI HR HA
 revert GI GR GA;intro HI HR HA
 have k_0:w5.cell? ⟨g,0,none⟩=some (.int .i64 10):=jq0 HI.o 0
 have f_0:w5.frozen? ⟨g,0,none⟩=false:=jq1 HI.o 0
 have k_1:w5.cell? ⟨g,1,none⟩=some (.string ⟨#[]⟩):=jq0 HI.o 1
 have f_1:w5.frozen? ⟨g,1,none⟩=false:=jq1 HI.o 1
 go_wp2_with fail
 refine (ban_any E b s1 _ (HA.o.set (i:=1) (by omega) (by omega) (.string ⟨n.toArray⟩)).1 g n t.pos (IB.set_name HI.o n) (by omega)).mono ?_
 rw [H2.o]
 rintro e w6 ⟨rfl,⟨sc,hI,hO⟩,hA⟩
 have GI:Hid (IB g {V with pos:=t.pos} sc nil nil nil w6):=hI
 have GR:Hid (IB W.heap.size flat0 nil nil nil nil w6):=hA.2.blk (jq2 HR.o (by omega) _) (by omega)
 have HRW:Hid (w6.ownsRow (g+1) 59 2 sc V.conds.length (V.conds.flatMap cval)):=own_base hO (by have:=jq7 (IB.set_name HI.o n);omega)
 have GA:=hdd ((HA.o.set (i:=1) (by omega) (by omega) (.string ⟨n.toArray⟩)).ptr hA (by omega))
 clear hA hI hO
 try clear k_0 f_0 k_1 f_1
 clear HI HR HA
 revert GI GR GA;intro HI HR HA
 obtain ⟨Ac,cc,hsc⟩:=own_form HRW.o
 subst hsc
 obtain ⟨w99,hw99,hA99,hl99,ho99⟩:=item_end (g:=flat0) (a1:=nil) (a2:=nil) (a3:=nil) (a4:=nil) HR.o HA.o hbl {V with pos:=t.pos} (.slice Ac V.conds.length cc) nil nil nil
 have HRW9:=hdd (own_base (ho99 _ _ _ _ _ _ (by omega) HRW.o) (show W.heap.size≤g+1 by omega))
 have HW99:=hdd hw99;clear hw99
 have HA99:=hdd hA99;clear hA99
 have HL99:=hdd hl99;clear hl99 ho99
 have HI9:Hid (IB g {V with pos:=t.pos} (.slice Ac V.conds.length cc) nil nil nil _):=HI.o
 have HR9:Hid (IB W.heap.size flat0 nil nil nil nil _):=HR.o
 go_wp2_with (first|(refine wpList_load_mid rfl 57 _ rfl g 0 rfl (icells {V with pos:=t.pos} (.slice Ac V.conds.length cc) nil nil nil) _ HI9.o.range Tryd.underlying57 rfl (jx6 _ _ _ _ _) ?_)|(refine wpList_store_mid rfl 57 _ _ rfl W.heap.size 0 (icells {V with pos:=t.pos} (.slice Ac V.conds.length cc) nil nil nil).toArray rfl rfl (HR9.o.there' _ _ _ _ _) (jq6 _ _ _ _ _) (ic1 ..) ?_;rw [HW99.o]))
 exact bodyPost_ret (v:= .agg (icells {V with pos:=t.pos} (.slice Ac V.conds.length cc) nil nil nil).toArray) (jq8 Tryd.results28 rfl HL99.o) rfl ⟨⟨(.slice Ac V.conds.length cc),nil,nil,rfl,⟨HRW9.o,by show World.ownsRow _ _ _ _ _ V.dates.length _;rw [hVd];exact World.ownsRow_nil _ _ _ _,by show World.ownsRow _ _ _ _ _ V.names.length _;rw [hVn];exact World.ownsRow_nil _ _ _ _⟩⟩,HA99.o⟩
theorem item_p11 (E:Env) (b:Nat) (s:St) (W:World) (h:PW E b s W) (i:Bool) (hk:rkind i s rwords=11) (t:Tok) (r:List Tok) (hr:s.rest=t::r) (he:s.err=0) (hit:s.items≠600) (n:Bytes) (s1:St) (V:Flat) (s2:St) (h1:name ⟨r,s.items+1,0⟩=(n,s1)) (h2:optR n s1=(V,s2)) (hVd:V.dates= []) (hVn:V.names= []):
  Calls Tryd.prog 28 #[.pointer (some ⟨b,0,none⟩),.bool i] W fun e w'=>(∃sc sd sn,e= .returned (.agg (icells {V with pos:=t.pos} sc sd sn nil).toArray)∧FlatOK W.heap.size {V with pos:=t.pos} sc sd sn w')∧After E b s2 W w':=by
 have H1:=hdd h1;clear h1
 have H2:=hdd h2;clear h2
 have hbl:=h.2.2.1
 have hln:=h.1
 have HP:=hdd h;have HK:=hdd hk;have HR0:=hdd hr;have HE0:=hdd he
 have d6: ¬(600:Int)≤(s.items:Int):=by have:=h.2.1;omega
 clear h hk hr he hit
 go_enter Tryd.func28,Tryd.ntmps28
 go_wp2_with fail
 refine (jv1 E b s _ ((After.start HP.o).alloc _).1 i).mono ?_
 rw [HK.o]
 rintro e w1 ⟨rfl,hA⟩
 have HR1:Hid (IB W.heap.size flat0 nil nil nil nil w1):=hA.2.blk (jq5 (by simp)) (by omega)
 have HA1:=hdd (((After.start HP.o).alloc _).trans hA)
 have hs1:W.heap.size<w1.heap.size:=jq7 HR1.o
 clear hA
 obtain ⟨g,HG⟩: ∃q,Hid (w1.heap.size=q):=⟨_,rfl⟩
 obtain ⟨w2,hw2⟩: ∃u,w1.alloc (.cells (icells {flat0 with kind:=11} nil nil nil nil).toArray 57)=u:=⟨_,rfl⟩
 have HI2:Hid (IB g {flat0 with kind:=11} nil nil nil nil w2):=by rw [←hw2];exact jq5 HG.o.symm
 have HA2:Hid (After E b s W w2):=by rw [←hw2];exact HA1.o.alloc _
 have HR2:Hid (IB W.heap.size flat0 nil nil nil nil w2):=by rw [←hw2];exact jq9 HR1.o _
 have hgW:W.heap.size<g:=by have:=HG.o;omega
 have HW2:=hdd hw2
 clear hw2 HA1 HR1
 go_upto_region 2 with (first|(refine wpList_build rfl 57 _ rfl #[(0,.int .i64 ((11:Nat):Int))] ?_ _ (jz6 11 _) ?_;(simp [Act.eval]))|(refine jq4 rfl 57 _ _ rfl rfl (icells {flat0 with kind:=11} nil nil nil nil).toArray rfl (jq6 _ _ _ _ _) (ic1 ..) (by rfl) ?_))
 rw [HW2.o,HG.o]
 clear HW2
 have k0:w2.cell? ⟨g,0,none⟩=some (.int .i64 11):=jq0 HI2.o 0
 go_upto_region 5 with fail
 clear k0
 obtain ⟨_,hit,hb2,hpt,n0,h1',h2',hblk⟩:=id HA2.o.1
 have hd:t::r=E.ts.drop n0:=by rw [←HR0.o];exact h2'
 obtain ⟨hn,hti,hr2⟩:=jz2 hd
 obtain ⟨gt,ot,hAd,hgt,hct⟩:=hpt.2 (by omega)
 obtain ⟨_,_,_,q3⟩:=hct n0 hn
 rw [hti] at q3
 have c0:w2.cell? ⟨b,0,none⟩=some (.slice (some ⟨gt,ot,none⟩) E.ts.length E.cap):=by rw [←hAd];exact jq0 hblk 0
 have c1:w2.cell? ⟨b,1,none⟩=some (.int .i64 (n0:Int)):=jq0 hblk 1
 have x2:w2.cell? ⟨g,2,none⟩=some (.int .i64 0):=jq0 HI2.o 2
 have y2:w2.frozen? ⟨g,2,none⟩=false:=jq1 HI2.o 2
 have i1:(0:Int)≤(n0:Int):=Int.natCast_nonneg _
 have i2:(n0:Int)<(E.ts.length:Int):=by omega
 have hbg:b≠g:=by omega
 have htg:gt≠g:=by omega
 have g0:(w2.setCell ⟨g,2,none⟩ (.int .i64 (t.pos:Int))).drew.cell? ⟨b,0,none⟩=some (.slice (some ⟨gt,ot,none⟩) E.ts.length E.cap):=by
  show (w2.setCell ⟨g,2,none⟩ (.int .i64 (t.pos:Int))).cell? ⟨b,0,none⟩=_
  exact (jz0 hbg).trans c0
 have g1:(w2.setCell ⟨g,2,none⟩ (.int .i64 (t.pos:Int))).drew.cell? ⟨b,1,none⟩=some (.int .i64 (n0:Int)):=by
  show (w2.setCell ⟨g,2,none⟩ (.int .i64 (t.pos:Int))).cell? ⟨b,1,none⟩=_
  exact (jz0 hbg).trans c1
 have g3:(w2.setCell ⟨g,2,none⟩ (.int .i64 (t.pos:Int))).drew.cell? ⟨gt,ot+n0*4+3,none⟩=some (.int .i64 (t.pos:Int)):=by
  show (w2.setCell ⟨g,2,none⟩ (.int .i64 (t.pos:Int))).cell? ⟨gt,ot+n0*4+3,none⟩=_
  exact (jz0 htg).trans q3
 have HBLK:=hdd hblk;have HPT:=hdd hpt;have HRR:=hdd hr2
 clear hblk hpt hr2 hd hti hct h2' hAd
 go_region_held3 (fun w'=>w'.cell? ⟨b,0,none⟩=some (.slice (some ⟨gt,ot,none⟩) E.ts.length E.cap)∧w'.cell? ⟨b,1,none⟩=some (.int .i64 (n0:Int))∧w'.cell? ⟨gt,ot+n0*4+3,none⟩=some (.int .i64 (t.pos:Int))) (first|go_keep|(go_split_ands;refine ⟨?_,?_,?_⟩<;>first|assumption|exact c0|exact c1|exact q3|exact g0|exact g1|exact g3)) (fail)
 clear c0 c1 x2 y2 g0 g1 g3 q3
 obtain ⟨w3,hw3⟩: ∃u,(w2.setCell ⟨g,2,none⟩ (.int .i64 (t.pos:Int))).drewN 1=u:=⟨_,rfl⟩
 have HI3:Hid (IB g {flat0 with kind:=11,pos:=t.pos} nil nil nil nil w3):=by rw [←hw3];exact jx2 (IB.set_pos HI2.o t.pos) 1
 have HR3:Hid (IB W.heap.size flat0 nil nil nil nil w3):=by rw [←hw3];exact jx2 (jq2 HR2.o (by omega) _) 1
 have HB3:Hid (w3.heap[b]?=some (.cells (pcells E n0 s) 71 (0,0))):=by rw [←hw3];exact jx2 (jq2 HBLK.o (by omega) _) 1
 have HF3:Hid (Fr (fun k=>k=b) W w3):=by rw [←hw3];exact (HA2.o.2.setCell (p:=⟨g,2,none⟩) (.inr (by show W.heap.size≤g;omega)) _).drewN 1
 have HW3:Hid ((w2.setCell ⟨g,2,none⟩ (.int .i64 (t.pos:Int))).drew=w3):=hw3
 clear hw3 HI2 HR2 HBLK
 rw [HW3.o]
 clear HW3
 have c1:w3.cell? ⟨b,1,none⟩=some (.int .i64 (n0:Int)):=jq0 HB3.o 1
 have f1:w3.frozen? ⟨b,1,none⟩=false:=jq1 HB3.o 1
 have c3:w3.cell? ⟨b,3,none⟩=some (.int .i64 (s.items:Int)):=jq0 HB3.o 3
 have f3:w3.frozen? ⟨b,3,none⟩=false:=jq1 HB3.o 3
 have w6:IntKind.i64.wrap ((s.items:Int)+1)=(s.items:Int)+1:=IntWalk.i64_in _ (by omega)
 have w7:IntKind.i64.wrap ((n0:Int)+1)=(n0:Int)+1:=IntWalk.i64_in _ (by omega)
 go_upto_region 12 with fail
 obtain ⟨w4,hw4⟩: ∃u,(w3.setCell ⟨b,3,none⟩ (.int .i64 ((s.items:Int)+1))).setCell ⟨b,1,none⟩ (.int .i64 ((n0:Int)+1))=u:=⟨_,rfl⟩
 have HF4:Hid (Fr (fun k=>k=b) W w4):=by rw [←hw4];exact (HF3.o.setb 3 _).setb 1 _
 have HI:Hid (IB g {flat0 with kind:=11,pos:=t.pos} nil nil nil nil w4):=by rw [←hw4];exact jq2 (jq2 HI3.o (by omega) _) (by omega) _
 have HR:Hid (IB W.heap.size flat0 nil nil nil nil w4):=by rw [←hw4];exact jq2 (jq2 HR3.o (by omega) _) (by omega) _
 have HA:Hid (After E b ⟨r,s.items+1,0⟩ W w4):=by
  have hbk:=jv8 HB3.o HE0.o
  rw [hw4,HR0.o] at hbk
  exact ⟨mod_PW HP.o HF4.o (by show s.items+1≤600;omega) (by omega) HRR.o hbk,HF4.o⟩
 rw [hw4]
 clear hw4 HF4 HI3 HR3 HB3 HF3 HA2 c1 f1 c3 f3 w6 w7 HPT HRR
 have k_0:w4.cell? ⟨g,0,none⟩=some (.int .i64 11):=jq0 HI.o 0
 have f_0:w4.frozen? ⟨g,0,none⟩=false:=jq1 HI.o 0
 go_wp2_with fail
 refine (name_any E b ⟨r,s.items+1,0⟩ _ HA.o.1).mono ?_
 rw [H1.o]
 rintro e w5 ⟨rfl,hA⟩
 have GI:Hid (IB g {flat0 with kind:=11,pos:=t.pos} nil nil nil nil w5):=hA.2.blk HI.o (by omega)
 have GR:Hid (IB W.heap.size flat0 nil nil nil nil w5):=hA.2.blk HR.o (by omega)
 have GA:=hdd (HA.o.trans hA)
 clear hA
 try clear k_0 f_0
 clear HI HR HA
 revert GI GR GA;intro HI HR HA
 have k_0:w5.cell? ⟨g,0,none⟩=some (.int .i64 11):=jq0 HI.o 0
 have f_0:w5.frozen? ⟨g,0,none⟩=false:=jq1 HI.o 0
 have k_1:w5.cell? ⟨g,1,none⟩=some (.string ⟨#[]⟩):=jq0 HI.o 1
 have f_1:w5.frozen? ⟨g,1,none⟩=false:=jq1 HI.o 1
 go_wp2_with fail
 refine (opt_any E b s1 _ (HA.o.set (i:=1) (by omega) (by omega) (.string ⟨n.toArray⟩)).1 g n t.pos (IB.set_name HI.o n) (by omega)).mono ?_
 rw [H2.o]
 rintro e w6 ⟨rfl,⟨sc,hI,hO⟩,hA⟩
 have GI:Hid (IB g {V with pos:=t.pos} sc nil nil nil w6):=hI
 have GR:Hid (IB W.heap.size flat0 nil nil nil nil w6):=hA.2.blk (jq2 HR.o (by omega) _) (by omega)
 have HRW:Hid (w6.ownsRow (g+1) 59 2 sc V.conds.length (V.conds.flatMap cval)):=own_base hO (by have:=jq7 (IB.set_name HI.o n);omega)
 have GA:=hdd ((HA.o.set (i:=1) (by omega) (by omega) (.string ⟨n.toArray⟩)).ptr hA (by omega))
 clear hA hI hO
 try clear k_0 f_0 k_1 f_1
 clear HI HR HA
 revert GI GR GA;intro HI HR HA
 obtain ⟨Ac,cc,hsc⟩:=own_form HRW.o
 subst hsc
 obtain ⟨w99,hw99,hA99,hl99,ho99⟩:=item_end (g:=flat0) (a1:=nil) (a2:=nil) (a3:=nil) (a4:=nil) HR.o HA.o hbl {V with pos:=t.pos} (.slice Ac V.conds.length cc) nil nil nil
 have HRW9:=hdd (own_base (ho99 _ _ _ _ _ _ (by omega) HRW.o) (show W.heap.size≤g+1 by omega))
 have HW99:=hdd hw99;clear hw99
 have HA99:=hdd hA99;clear hA99
 have HL99:=hdd hl99;clear hl99 ho99
 have HI9:Hid (IB g {V with pos:=t.pos} (.slice Ac V.conds.length cc) nil nil nil _):=HI.o
 have HR9:Hid (IB W.heap.size flat0 nil nil nil nil _):=HR.o
 go_wp2_with (first|(refine wpList_load_mid rfl 57 _ rfl g 0 rfl (icells {V with pos:=t.pos} (.slice Ac V.conds.length cc) nil nil nil) _ HI9.o.range Tryd.underlying57 rfl (jx6 _ _ _ _ _) ?_)|(refine wpList_store_mid rfl 57 _ _ rfl W.heap.size 0 (icells {V with pos:=t.pos} (.slice Ac V.conds.length cc) nil nil nil).toArray rfl rfl (HR9.o.there' _ _ _ _ _) (jq6 _ _ _ _ _) (ic1 ..) ?_;rw [HW99.o]))
 exact bodyPost_ret (v:= .agg (icells {V with pos:=t.pos} (.slice Ac V.conds.length cc) nil nil nil).toArray) (jq8 Tryd.results28 rfl HL99.o) rfl ⟨⟨(.slice Ac V.conds.length cc),nil,nil,rfl,⟨HRW9.o,by show World.ownsRow _ _ _ _ _ V.dates.length _;rw [hVd];exact World.ownsRow_nil _ _ _ _,by show World.ownsRow _ _ _ _ _ V.names.length _;rw [hVn];exact World.ownsRow_nil _ _ _ _⟩⟩,HA99.o⟩
theorem item_p12 (E:Env) (b:Nat) (s:St) (W:World) (h:PW E b s W) (i:Bool) (hk:rkind i s rwords=12) (t:Tok) (r:List Tok) (hr:s.rest=t::r) (he:s.err=0) (hit:s.items≠600) (n:Bytes) (s1:St) (V:Flat) (s2:St) (h1:name ⟨r,s.items+1,0⟩=(n,s1)) (h2:watR n s1=(V,s2)) (hVd:V.dates= []) (hVn:V.names= []):
  Calls Tryd.prog 28 #[.pointer (some ⟨b,0,none⟩),.bool i] W fun e w'=>(∃sc sd sn,e= .returned (.agg (icells {V with pos:=t.pos} sc sd sn nil).toArray)∧FlatOK W.heap.size {V with pos:=t.pos} sc sd sn w')∧After E b s2 W w':=by
 have H1:=hdd h1;clear h1
 have H2:=hdd h2;clear h2
 have hbl:=h.2.2.1
 have hln:=h.1
 have HP:=hdd h;have HK:=hdd hk;have HR0:=hdd hr;have HE0:=hdd he
 have d6: ¬(600:Int)≤(s.items:Int):=by have:=h.2.1;omega
 clear h hk hr he hit
 go_enter Tryd.func28,Tryd.ntmps28
 go_wp2_with fail
 refine (jv1 E b s _ ((After.start HP.o).alloc _).1 i).mono ?_
 rw [HK.o]
 rintro e w1 ⟨rfl,hA⟩
 have HR1:Hid (IB W.heap.size flat0 nil nil nil nil w1):=hA.2.blk (jq5 (by simp)) (by omega)
 have HA1:=hdd (((After.start HP.o).alloc _).trans hA)
 have hs1:W.heap.size<w1.heap.size:=jq7 HR1.o
 clear hA
 obtain ⟨g,HG⟩: ∃q,Hid (w1.heap.size=q):=⟨_,rfl⟩
 obtain ⟨w2,hw2⟩: ∃u,w1.alloc (.cells (icells {flat0 with kind:=12} nil nil nil nil).toArray 57)=u:=⟨_,rfl⟩
 have HI2:Hid (IB g {flat0 with kind:=12} nil nil nil nil w2):=by rw [←hw2];exact jq5 HG.o.symm
 have HA2:Hid (After E b s W w2):=by rw [←hw2];exact HA1.o.alloc _
 have HR2:Hid (IB W.heap.size flat0 nil nil nil nil w2):=by rw [←hw2];exact jq9 HR1.o _
 have hgW:W.heap.size<g:=by have:=HG.o;omega
 have HW2:=hdd hw2
 clear hw2 HA1 HR1
 go_upto_region 2 with (first|(refine wpList_build rfl 57 _ rfl #[(0,.int .i64 ((12:Nat):Int))] ?_ _ (jz6 12 _) ?_;(simp [Act.eval]))|(refine jq4 rfl 57 _ _ rfl rfl (icells {flat0 with kind:=12} nil nil nil nil).toArray rfl (jq6 _ _ _ _ _) (ic1 ..) (by rfl) ?_))
 rw [HW2.o,HG.o]
 clear HW2
 have k0:w2.cell? ⟨g,0,none⟩=some (.int .i64 12):=jq0 HI2.o 0
 go_upto_region 5 with fail
 clear k0
 obtain ⟨_,hit,hb2,hpt,n0,h1',h2',hblk⟩:=id HA2.o.1
 have hd:t::r=E.ts.drop n0:=by rw [←HR0.o];exact h2'
 obtain ⟨hn,hti,hr2⟩:=jz2 hd
 obtain ⟨gt,ot,hAd,hgt,hct⟩:=hpt.2 (by omega)
 obtain ⟨_,_,_,q3⟩:=hct n0 hn
 rw [hti] at q3
 have c0:w2.cell? ⟨b,0,none⟩=some (.slice (some ⟨gt,ot,none⟩) E.ts.length E.cap):=by rw [←hAd];exact jq0 hblk 0
 have c1:w2.cell? ⟨b,1,none⟩=some (.int .i64 (n0:Int)):=jq0 hblk 1
 have x2:w2.cell? ⟨g,2,none⟩=some (.int .i64 0):=jq0 HI2.o 2
 have y2:w2.frozen? ⟨g,2,none⟩=false:=jq1 HI2.o 2
 have i1:(0:Int)≤(n0:Int):=Int.natCast_nonneg _
 have i2:(n0:Int)<(E.ts.length:Int):=by omega
 have hbg:b≠g:=by omega
 have htg:gt≠g:=by omega
 have g0:(w2.setCell ⟨g,2,none⟩ (.int .i64 (t.pos:Int))).drew.cell? ⟨b,0,none⟩=some (.slice (some ⟨gt,ot,none⟩) E.ts.length E.cap):=by
  show (w2.setCell ⟨g,2,none⟩ (.int .i64 (t.pos:Int))).cell? ⟨b,0,none⟩=_
  exact (jz0 hbg).trans c0
 have g1:(w2.setCell ⟨g,2,none⟩ (.int .i64 (t.pos:Int))).drew.cell? ⟨b,1,none⟩=some (.int .i64 (n0:Int)):=by
  show (w2.setCell ⟨g,2,none⟩ (.int .i64 (t.pos:Int))).cell? ⟨b,1,none⟩=_
  exact (jz0 hbg).trans c1
 have g3:(w2.setCell ⟨g,2,none⟩ (.int .i64 (t.pos:Int))).drew.cell? ⟨gt,ot+n0*4+3,none⟩=some (.int .i64 (t.pos:Int)):=by
  show (w2.setCell ⟨g,2,none⟩ (.int .i64 (t.pos:Int))).cell? ⟨gt,ot+n0*4+3,none⟩=_
  exact (jz0 htg).trans q3
 have HBLK:=hdd hblk;have HPT:=hdd hpt;have HRR:=hdd hr2
 clear hblk hpt hr2 hd hti hct h2' hAd
 go_region_held3 (fun w'=>w'.cell? ⟨b,0,none⟩=some (.slice (some ⟨gt,ot,none⟩) E.ts.length E.cap)∧w'.cell? ⟨b,1,none⟩=some (.int .i64 (n0:Int))∧w'.cell? ⟨gt,ot+n0*4+3,none⟩=some (.int .i64 (t.pos:Int))) (first|go_keep|(go_split_ands;refine ⟨?_,?_,?_⟩<;>first|assumption|exact c0|exact c1|exact q3|exact g0|exact g1|exact g3)) (fail)
 clear c0 c1 x2 y2 g0 g1 g3 q3
 obtain ⟨w3,hw3⟩: ∃u,(w2.setCell ⟨g,2,none⟩ (.int .i64 (t.pos:Int))).drewN 1=u:=⟨_,rfl⟩
 have HI3:Hid (IB g {flat0 with kind:=12,pos:=t.pos} nil nil nil nil w3):=by rw [←hw3];exact jx2 (IB.set_pos HI2.o t.pos) 1
 have HR3:Hid (IB W.heap.size flat0 nil nil nil nil w3):=by rw [←hw3];exact jx2 (jq2 HR2.o (by omega) _) 1
 have HB3:Hid (w3.heap[b]?=some (.cells (pcells E n0 s) 71 (0,0))):=by rw [←hw3];exact jx2 (jq2 HBLK.o (by omega) _) 1
 have HF3:Hid (Fr (fun k=>k=b) W w3):=by rw [←hw3];exact (HA2.o.2.setCell (p:=⟨g,2,none⟩) (.inr (by show W.heap.size≤g;omega)) _).drewN 1
 have HW3:Hid ((w2.setCell ⟨g,2,none⟩ (.int .i64 (t.pos:Int))).drew=w3):=hw3
 clear hw3 HI2 HR2 HBLK
 rw [HW3.o]
 clear HW3
 have c1:w3.cell? ⟨b,1,none⟩=some (.int .i64 (n0:Int)):=jq0 HB3.o 1
 have f1:w3.frozen? ⟨b,1,none⟩=false:=jq1 HB3.o 1
 have c3:w3.cell? ⟨b,3,none⟩=some (.int .i64 (s.items:Int)):=jq0 HB3.o 3
 have f3:w3.frozen? ⟨b,3,none⟩=false:=jq1 HB3.o 3
 have w6:IntKind.i64.wrap ((s.items:Int)+1)=(s.items:Int)+1:=IntWalk.i64_in _ (by omega)
 have w7:IntKind.i64.wrap ((n0:Int)+1)=(n0:Int)+1:=IntWalk.i64_in _ (by omega)
 go_upto_region 12 with fail
 obtain ⟨w4,hw4⟩: ∃u,(w3.setCell ⟨b,3,none⟩ (.int .i64 ((s.items:Int)+1))).setCell ⟨b,1,none⟩ (.int .i64 ((n0:Int)+1))=u:=⟨_,rfl⟩
 have HF4:Hid (Fr (fun k=>k=b) W w4):=by rw [←hw4];exact (HF3.o.setb 3 _).setb 1 _
 have HI:Hid (IB g {flat0 with kind:=12,pos:=t.pos} nil nil nil nil w4):=by rw [←hw4];exact jq2 (jq2 HI3.o (by omega) _) (by omega) _
 have HR:Hid (IB W.heap.size flat0 nil nil nil nil w4):=by rw [←hw4];exact jq2 (jq2 HR3.o (by omega) _) (by omega) _
 have HA:Hid (After E b ⟨r,s.items+1,0⟩ W w4):=by
  have hbk:=jv8 HB3.o HE0.o
  rw [hw4,HR0.o] at hbk
  exact ⟨mod_PW HP.o HF4.o (by show s.items+1≤600;omega) (by omega) HRR.o hbk,HF4.o⟩
 rw [hw4]
 clear hw4 HF4 HI3 HR3 HB3 HF3 HA2 c1 f1 c3 f3 w6 w7 HPT HRR
 have k_0:w4.cell? ⟨g,0,none⟩=some (.int .i64 12):=jq0 HI.o 0
 have f_0:w4.frozen? ⟨g,0,none⟩=false:=jq1 HI.o 0
 go_wp2_with fail
 refine (name_any E b ⟨r,s.items+1,0⟩ _ HA.o.1).mono ?_
 rw [H1.o]
 rintro e w5 ⟨rfl,hA⟩
 have GI:Hid (IB g {flat0 with kind:=12,pos:=t.pos} nil nil nil nil w5):=hA.2.blk HI.o (by omega)
 have GR:Hid (IB W.heap.size flat0 nil nil nil nil w5):=hA.2.blk HR.o (by omega)
 have GA:=hdd (HA.o.trans hA)
 clear hA
 try clear k_0 f_0
 clear HI HR HA
 revert GI GR GA;intro HI HR HA
 have k_0:w5.cell? ⟨g,0,none⟩=some (.int .i64 12):=jq0 HI.o 0
 have f_0:w5.frozen? ⟨g,0,none⟩=false:=jq1 HI.o 0
 have k_1:w5.cell? ⟨g,1,none⟩=some (.string ⟨#[]⟩):=jq0 HI.o 1
 have f_1:w5.frozen? ⟨g,1,none⟩=false:=jq1 HI.o 1
 go_wp2_with fail
 refine (wat_any E b s1 _ (HA.o.set (i:=1) (by omega) (by omega) (.string ⟨n.toArray⟩)).1 g n t.pos (IB.set_name HI.o n) (by omega)).mono ?_
 rw [H2.o]
 rintro e w6 ⟨rfl,⟨sc,hI,hO⟩,hA⟩
 have GI:Hid (IB g {V with pos:=t.pos} sc nil nil nil w6):=hI
 have GR:Hid (IB W.heap.size flat0 nil nil nil nil w6):=hA.2.blk (jq2 HR.o (by omega) _) (by omega)
 have HRW:Hid (w6.ownsRow (g+1) 59 2 sc V.conds.length (V.conds.flatMap cval)):=own_base hO (by have:=jq7 (IB.set_name HI.o n);omega)
 have GA:=hdd ((HA.o.set (i:=1) (by omega) (by omega) (.string ⟨n.toArray⟩)).ptr hA (by omega))
 clear hA hI hO
 try clear k_0 f_0 k_1 f_1
 clear HI HR HA
 revert GI GR GA;intro HI HR HA
 obtain ⟨Ac,cc,hsc⟩:=own_form HRW.o
 subst hsc
 obtain ⟨w99,hw99,hA99,hl99,ho99⟩:=item_end (g:=flat0) (a1:=nil) (a2:=nil) (a3:=nil) (a4:=nil) HR.o HA.o hbl {V with pos:=t.pos} (.slice Ac V.conds.length cc) nil nil nil
 have HRW9:=hdd (own_base (ho99 _ _ _ _ _ _ (by omega) HRW.o) (show W.heap.size≤g+1 by omega))
 have HW99:=hdd hw99;clear hw99
 have HA99:=hdd hA99;clear hA99
 have HL99:=hdd hl99;clear hl99 ho99
 have HI9:Hid (IB g {V with pos:=t.pos} (.slice Ac V.conds.length cc) nil nil nil _):=HI.o
 have HR9:Hid (IB W.heap.size flat0 nil nil nil nil _):=HR.o
 go_wp2_with (first|(refine wpList_load_mid rfl 57 _ rfl g 0 rfl (icells {V with pos:=t.pos} (.slice Ac V.conds.length cc) nil nil nil) _ HI9.o.range Tryd.underlying57 rfl (jx6 _ _ _ _ _) ?_)|(refine wpList_store_mid rfl 57 _ _ rfl W.heap.size 0 (icells {V with pos:=t.pos} (.slice Ac V.conds.length cc) nil nil nil).toArray rfl rfl (HR9.o.there' _ _ _ _ _) (jq6 _ _ _ _ _) (ic1 ..) ?_;rw [HW99.o]))
 exact bodyPost_ret (v:= .agg (icells {V with pos:=t.pos} (.slice Ac V.conds.length cc) nil nil nil).toArray) (jq8 Tryd.results28 rfl HL99.o) rfl ⟨⟨(.slice Ac V.conds.length cc),nil,nil,rfl,⟨HRW9.o,by show World.ownsRow _ _ _ _ _ V.dates.length _;rw [hVd];exact World.ownsRow_nil _ _ _ _,by show World.ownsRow _ _ _ _ _ V.names.length _;rw [hVn];exact World.ownsRow_nil _ _ _ _⟩⟩,HA99.o⟩
theorem item_p14 (E:Env) (b:Nat) (s:St) (W:World) (h:PW E b s W) (i:Bool) (hk:rkind i s rwords=14) (t:Tok) (r:List Tok) (hr:s.rest=t::r) (he:s.err=0) (hit:s.items≠600) (o:Bytes) (s1:St) (u2:Unit) (s2:St) (n:Bytes) (s3:St) (l:List Bytes) (s4:St) (u5:Unit) (s5:St) (h1:name ⟨r,s.items+1,0⟩=(o,s1)) (h2:expect [[97,115]] s1=(u2,s2)) (h3:name s2=(n,s3)) (h4:rnames s3=(l,s4)) (h5:expect [[59]] s4=(u5,s5)):
  Calls Tryd.prog 28 #[.pointer (some ⟨b,0,none⟩),.bool i] W fun e w'=>(∃sc sd sn,e= .returned (.agg (icells {flat0 with kind:=14,pos:=t.pos,name:=n,of_:=o,names:=l} sc sd sn nil).toArray)∧FlatOK W.heap.size {flat0 with kind:=14,pos:=t.pos,name:=n,of_:=o,names:=l} sc sd sn w')∧After E b s5 W w':=by
 have H1:=hdd h1;clear h1
 have H2:=hdd h2;clear h2
 have H3:=hdd h3;clear h3
 have H4:=hdd h4;clear h4
 have H5:=hdd h5;clear h5
 have hbl:=h.2.2.1
 have hln:=h.1
 have HP:=hdd h;have HK:=hdd hk;have HR0:=hdd hr;have HE0:=hdd he
 have d6: ¬(600:Int)≤(s.items:Int):=by have:=h.2.1;omega
 clear h hk hr he hit
 go_enter Tryd.func28,Tryd.ntmps28
 go_wp2_with fail
 refine (jv1 E b s _ ((After.start HP.o).alloc _).1 i).mono ?_
 rw [HK.o]
 rintro e w1 ⟨rfl,hA⟩
 have HR1:Hid (IB W.heap.size flat0 nil nil nil nil w1):=hA.2.blk (jq5 (by simp)) (by omega)
 have HA1:=hdd (((After.start HP.o).alloc _).trans hA)
 have hs1:W.heap.size<w1.heap.size:=jq7 HR1.o
 clear hA
 obtain ⟨g,HG⟩: ∃q,Hid (w1.heap.size=q):=⟨_,rfl⟩
 obtain ⟨w2,hw2⟩: ∃u,w1.alloc (.cells (icells {flat0 with kind:=14} nil nil nil nil).toArray 57)=u:=⟨_,rfl⟩
 have HI2:Hid (IB g {flat0 with kind:=14} nil nil nil nil w2):=by rw [←hw2];exact jq5 HG.o.symm
 have HA2:Hid (After E b s W w2):=by rw [←hw2];exact HA1.o.alloc _
 have HR2:Hid (IB W.heap.size flat0 nil nil nil nil w2):=by rw [←hw2];exact jq9 HR1.o _
 have hgW:W.heap.size<g:=by have:=HG.o;omega
 have HW2:=hdd hw2
 clear hw2 HA1 HR1
 go_upto_region 2 with (first|(refine wpList_build rfl 57 _ rfl #[(0,.int .i64 ((14:Nat):Int))] ?_ _ (jz6 14 _) ?_;(simp [Act.eval]))|(refine jq4 rfl 57 _ _ rfl rfl (icells {flat0 with kind:=14} nil nil nil nil).toArray rfl (jq6 _ _ _ _ _) (ic1 ..) (by rfl) ?_))
 rw [HW2.o,HG.o]
 clear HW2
 have k0:w2.cell? ⟨g,0,none⟩=some (.int .i64 14):=jq0 HI2.o 0
 go_upto_region 5 with fail
 clear k0
 obtain ⟨_,hit,hb2,hpt,n0,h1',h2',hblk⟩:=id HA2.o.1
 have hd:t::r=E.ts.drop n0:=by rw [←HR0.o];exact h2'
 obtain ⟨hn,hti,hr2⟩:=jz2 hd
 obtain ⟨gt,ot,hAd,hgt,hct⟩:=hpt.2 (by omega)
 obtain ⟨_,_,_,q3⟩:=hct n0 hn
 rw [hti] at q3
 have c0:w2.cell? ⟨b,0,none⟩=some (.slice (some ⟨gt,ot,none⟩) E.ts.length E.cap):=by rw [←hAd];exact jq0 hblk 0
 have c1:w2.cell? ⟨b,1,none⟩=some (.int .i64 (n0:Int)):=jq0 hblk 1
 have x2:w2.cell? ⟨g,2,none⟩=some (.int .i64 0):=jq0 HI2.o 2
 have y2:w2.frozen? ⟨g,2,none⟩=false:=jq1 HI2.o 2
 have i1:(0:Int)≤(n0:Int):=Int.natCast_nonneg _
 have i2:(n0:Int)<(E.ts.length:Int):=by omega
 have hbg:b≠g:=by omega
 have htg:gt≠g:=by omega
 have g0:(w2.setCell ⟨g,2,none⟩ (.int .i64 (t.pos:Int))).drew.cell? ⟨b,0,none⟩=some (.slice (some ⟨gt,ot,none⟩) E.ts.length E.cap):=by
  show (w2.setCell ⟨g,2,none⟩ (.int .i64 (t.pos:Int))).cell? ⟨b,0,none⟩=_
  exact (jz0 hbg).trans c0
 have g1:(w2.setCell ⟨g,2,none⟩ (.int .i64 (t.pos:Int))).drew.cell? ⟨b,1,none⟩=some (.int .i64 (n0:Int)):=by
  show (w2.setCell ⟨g,2,none⟩ (.int .i64 (t.pos:Int))).cell? ⟨b,1,none⟩=_
  exact (jz0 hbg).trans c1
 have g3:(w2.setCell ⟨g,2,none⟩ (.int .i64 (t.pos:Int))).drew.cell? ⟨gt,ot+n0*4+3,none⟩=some (.int .i64 (t.pos:Int)):=by
  show (w2.setCell ⟨g,2,none⟩ (.int .i64 (t.pos:Int))).cell? ⟨gt,ot+n0*4+3,none⟩=_
  exact (jz0 htg).trans q3
 have HBLK:=hdd hblk;have HPT:=hdd hpt;have HRR:=hdd hr2
 clear hblk hpt hr2 hd hti hct h2' hAd
 go_region_held3 (fun w'=>w'.cell? ⟨b,0,none⟩=some (.slice (some ⟨gt,ot,none⟩) E.ts.length E.cap)∧w'.cell? ⟨b,1,none⟩=some (.int .i64 (n0:Int))∧w'.cell? ⟨gt,ot+n0*4+3,none⟩=some (.int .i64 (t.pos:Int))) (first|go_keep|(go_split_ands;refine ⟨?_,?_,?_⟩<;>first|assumption|exact c0|exact c1|exact q3|exact g0|exact g1|exact g3)) (fail)
 clear c0 c1 x2 y2 g0 g1 g3 q3
 obtain ⟨w3,hw3⟩: ∃u,(w2.setCell ⟨g,2,none⟩ (.int .i64 (t.pos:Int))).drewN 1=u:=⟨_,rfl⟩
 have HI3:Hid (IB g {flat0 with kind:=14,pos:=t.pos} nil nil nil nil w3):=by rw [←hw3];exact jx2 (IB.set_pos HI2.o t.pos) 1
 have HR3:Hid (IB W.heap.size flat0 nil nil nil nil w3):=by rw [←hw3];exact jx2 (jq2 HR2.o (by omega) _) 1
 have HB3:Hid (w3.heap[b]?=some (.cells (pcells E n0 s) 71 (0,0))):=by rw [←hw3];exact jx2 (jq2 HBLK.o (by omega) _) 1
 have HF3:Hid (Fr (fun k=>k=b) W w3):=by rw [←hw3];exact (HA2.o.2.setCell (p:=⟨g,2,none⟩) (.inr (by show W.heap.size≤g;omega)) _).drewN 1
 have HW3:Hid ((w2.setCell ⟨g,2,none⟩ (.int .i64 (t.pos:Int))).drew=w3):=hw3
 clear hw3 HI2 HR2 HBLK
 rw [HW3.o]
 clear HW3
 have c1:w3.cell? ⟨b,1,none⟩=some (.int .i64 (n0:Int)):=jq0 HB3.o 1
 have f1:w3.frozen? ⟨b,1,none⟩=false:=jq1 HB3.o 1
 have c3:w3.cell? ⟨b,3,none⟩=some (.int .i64 (s.items:Int)):=jq0 HB3.o 3
 have f3:w3.frozen? ⟨b,3,none⟩=false:=jq1 HB3.o 3
 have w6:IntKind.i64.wrap ((s.items:Int)+1)=(s.items:Int)+1:=IntWalk.i64_in _ (by omega)
 have w7:IntKind.i64.wrap ((n0:Int)+1)=(n0:Int)+1:=IntWalk.i64_in _ (by omega)
 go_upto_region 12 with fail
 obtain ⟨w4,hw4⟩: ∃u,(w3.setCell ⟨b,3,none⟩ (.int .i64 ((s.items:Int)+1))).setCell ⟨b,1,none⟩ (.int .i64 ((n0:Int)+1))=u:=⟨_,rfl⟩
 have HF4:Hid (Fr (fun k=>k=b) W w4):=by rw [←hw4];exact (HF3.o.setb 3 _).setb 1 _
 have HI:Hid (IB g {flat0 with kind:=14,pos:=t.pos} nil nil nil nil w4):=by rw [←hw4];exact jq2 (jq2 HI3.o (by omega) _) (by omega) _
 have HR:Hid (IB W.heap.size flat0 nil nil nil nil w4):=by rw [←hw4];exact jq2 (jq2 HR3.o (by omega) _) (by omega) _
 have HA:Hid (After E b ⟨r,s.items+1,0⟩ W w4):=by
  have hbk:=jv8 HB3.o HE0.o
  rw [hw4,HR0.o] at hbk
  exact ⟨mod_PW HP.o HF4.o (by show s.items+1≤600;omega) (by omega) HRR.o hbk,HF4.o⟩
 rw [hw4]
 clear hw4 HF4 HI3 HR3 HB3 HF3 HA2 c1 f1 c3 f3 w6 w7 HPT HRR
 have k_0:w4.cell? ⟨g,0,none⟩=some (.int .i64 14):=jq0 HI.o 0
 have f_0:w4.frozen? ⟨g,0,none⟩=false:=jq1 HI.o 0
 go_wp2_with fail
 refine (name_any E b ⟨r,s.items+1,0⟩ _ HA.o.1).mono ?_
 rw [H1.o]
 rintro e w5 ⟨rfl,hA⟩
 have GI:Hid (IB g {flat0 with kind:=14,pos:=t.pos} nil nil nil nil w5):=hA.2.blk HI.o (by omega)
 have GR:Hid (IB W.heap.size flat0 nil nil nil nil w5):=hA.2.blk HR.o (by omega)
 have GA:=hdd (HA.o.trans hA)
 clear hA
 try clear k_0 f_0
 clear HI HR HA
 revert GI GR GA;intro HI HR HA
 have k_0:w5.cell? ⟨g,0,none⟩=some (.int .i64 14):=jq0 HI.o 0
 have f_0:w5.frozen? ⟨g,0,none⟩=false:=jq1 HI.o 0
 have k_1:w5.cell? ⟨g,1,none⟩=some (.string ⟨#[]⟩):=jq0 HI.o 1
 have f_1:w5.frozen? ⟨g,1,none⟩=false:=jq1 HI.o 1
 have k_3:w5.cell? ⟨g,3,none⟩=some (.string ⟨#[]⟩):=jq0 HI.o 3
 have f_3:w5.frozen? ⟨g,3,none⟩=false:=jq1 HI.o 3
 go_wp2_with fail
 refine (jx3 E b s1 [97,115] _ ((HA.o.set (i:=1) (by omega) (by omega) (.string ⟨o.toArray⟩)).set (i:=3) (by omega) (by omega) (.string ⟨o.toArray⟩)).1 (nd_of (by decide))).mono ?_
 rw [H2.o]
 rintro e w6 ⟨rfl,hA⟩
 have GI:Hid (IB g {flat0 with kind:=14,pos:=t.pos,name:=o,of_:=o} nil nil nil nil w6):=hA.2.blk (IB.set_of_ (IB.set_name HI.o o) o) (by omega)
 have GR:Hid (IB W.heap.size flat0 nil nil nil nil w6):=hA.2.blk (jq2 (jq2 HR.o (by omega) _) (by omega) _) (by omega)
 have GA:=hdd (((HA.o.set (i:=1) (by omega) (by omega) (.string ⟨o.toArray⟩)).set (i:=3) (by omega) (by omega) (.string ⟨o.toArray⟩)).trans hA)
 clear hA
 try clear k_0 f_0 k_1 f_1 k_3 f_3
 clear HI HR HA
 revert GI GR GA;intro HI HR HA
 go_wp2_with fail
 refine (name_any E b s2 _ HA.o.1).mono ?_
 rw [H3.o]
 rintro e w7 ⟨rfl,hA⟩
 have GI:Hid (IB g {flat0 with kind:=14,pos:=t.pos,name:=o,of_:=o} nil nil nil nil w7):=hA.2.blk HI.o (by omega)
 have GR:Hid (IB W.heap.size flat0 nil nil nil nil w7):=hA.2.blk HR.o (by omega)
 have GA:=hdd (HA.o.trans hA)
 clear hA
 clear HI HR HA
 revert GI GR GA;intro HI HR HA
 have k_1:w7.cell? ⟨g,1,none⟩=some (.string ⟨o.toArray⟩):=jq0 HI.o 1
 have f_1:w7.frozen? ⟨g,1,none⟩=false:=jq1 HI.o 1
 go_wp2_with fail
 refine (names_any E b s3 _ (HA.o.set (i:=1) (by omega) (by omega) (.string ⟨n.toArray⟩)).1).mono ?_
 rw [H4.o]
 rintro e w8 ⟨⟨sn,rfl,hO⟩,hA⟩
 obtain ⟨An,cn,rfl⟩:=own_form hO
 have GI:Hid (IB g {flat0 with kind:=14,pos:=t.pos,name:=n,of_:=o} nil nil nil nil w8):=hA.2.blk (IB.set_name HI.o n) (by omega)
 have GR:Hid (IB W.heap.size flat0 nil nil nil nil w8):=hA.2.blk (jq2 HR.o (by omega) _) (by omega)
 have HRW:Hid (w8.ownsRow (g+1) 9 1 (.slice An l.length cn) l.length (l.map sv)):=own_base hO (by have:=jq7 (IB.set_name HI.o n);omega)
 have GA:=hdd ((HA.o.set (i:=1) (by omega) (by omega) (.string ⟨n.toArray⟩)).trans hA)
 clear hA hO
 try clear k_1 f_1
 clear HI HR HA
 revert GI GR GA;intro HI HR HA
 have k_31:w8.cell? ⟨g,31,none⟩=some (.slice none 0 0):=jq0 HI.o 31
 have f_31:w8.frozen? ⟨g,31,none⟩=false:=jq1 HI.o 31
 have GRW:=hdd (jx5 HRW.o ((Fr.refl (fun k=>k=g) _).setb 31 (.slice An l.length cn)) (fun k hk _ e=>by omega));clear HRW;have HRW:=GRW;clear GRW
 go_wp2_with fail
 refine (jx3 E b s4 [59] _ (HA.o.set (i:=31) (by omega) (by omega) (.slice An l.length cn)).1 (nd_of (by decide))).mono ?_
 rw [H5.o]
 rintro e w9 ⟨rfl,hA⟩
 have GI:Hid (IB g {flat0 with kind:=14,pos:=t.pos,name:=n,of_:=o,names:=l} nil nil (.slice An l.length cn) nil w9):=hA.2.blk (IB.set_sn HI.o (.slice An l.length cn)) (by omega)
 have GR:Hid (IB W.heap.size flat0 nil nil nil nil w9):=hA.2.blk (jq2 HR.o (by omega) _) (by omega)
 have GA:=hdd ((HA.o.set (i:=31) (by omega) (by omega) (.slice An l.length cn)).trans hA)
 have GRW:=hdd (jx5 HRW.o hA.2 (fun k hk _ e=>by omega));clear HRW;have HRW:=GRW;clear GRW
 clear hA
 try clear k_31 f_31
 clear HI HR HA
 revert GI GR GA;intro HI HR HA
 obtain ⟨w99,hw99,hA99,hl99,ho99⟩:=item_end (g:=flat0) (a1:=nil) (a2:=nil) (a3:=nil) (a4:=nil) HR.o HA.o hbl {flat0 with kind:=14,pos:=t.pos,name:=n,of_:=o,names:=l} nil nil (.slice An l.length cn) nil
 have HRW9:=hdd (own_base (ho99 _ _ _ _ _ _ (by omega) HRW.o) (show W.heap.size≤g+1 by omega))
 have HW99:=hdd hw99;clear hw99
 have HA99:=hdd hA99;clear hA99
 have HL99:=hdd hl99;clear hl99 ho99
 have HI9:Hid (IB g {flat0 with kind:=14,pos:=t.pos,name:=n,of_:=o,names:=l} nil nil (.slice An l.length cn) nil _):=HI.o
 have HR9:Hid (IB W.heap.size flat0 nil nil nil nil _):=HR.o
 go_wp2_with (first|(refine wpList_load_mid rfl 57 _ rfl g 0 rfl (icells {flat0 with kind:=14,pos:=t.pos,name:=n,of_:=o,names:=l} nil nil (.slice An l.length cn) nil) _ HI9.o.range Tryd.underlying57 rfl (jx6 _ _ _ _ _) ?_)|(refine wpList_store_mid rfl 57 _ _ rfl W.heap.size 0 (icells {flat0 with kind:=14,pos:=t.pos,name:=n,of_:=o,names:=l} nil nil (.slice An l.length cn) nil).toArray rfl rfl (HR9.o.there' _ _ _ _ _) (jq6 _ _ _ _ _) (ic1 ..) ?_;rw [HW99.o]))
 exact bodyPost_ret (v:= .agg (icells {flat0 with kind:=14,pos:=t.pos,name:=n,of_:=o,names:=l} nil nil (.slice An l.length cn) nil).toArray) (jq8 Tryd.results28 rfl HL99.o) rfl ⟨⟨nil,nil,(.slice An l.length cn),rfl,⟨World.ownsRow_nil _ _ _ _,World.ownsRow_nil _ _ _ _,HRW9.o⟩⟩,HA99.o⟩
end Go.Proofs.YtfaflipphkoiiaaDoor.Rp
