/-
  What some functions of the reference's parser return (printed by mkrp9.py): item: weekends, holidays.
-/
import Derived.Test.YtfaflipphkoiiaaDoorRpM
import Derived.Test.YtfaflipphkoiiaaDoorParHoli
set_option maxHeartbeats 64000000
set_option maxRecDepth 100000
set_option linter.unusedVariables false
namespace Go.Proofs.YtfaflipphkoiiaaDoor.Rp
open Go.RowKit Mem Pr
open Lx (Tok isDigit isLetter isSym)
def HRel (E:Env) (b:Nat) (W:World) (g p:Nat) (R:List Civil) (sr:St) (v:Value) (wr:World):Prop:=
 ∃(m:Bool) (l:List Civil) (s':St) (sd:Value),v= .bool m∧IB (g) {flat0 with kind:=5,pos:=p} nil sd nil nil wr∧IB W.heap.size flat0 nil nil nil nil wr∧wr.ownsRow (g+1) 24 3 sd l.length (l.flatMap dval)∧After E b s' W wr∧
  l.length+s'.rest.length+boolNat (.bool m)≤5002∧(m=true→ ∃n,s'.rest.length<n∧(l++(datesMore n s').1,(datesMore n s').2)=(R,sr))∧(m=false→(l,s')=(R,sr))
theorem holi_app {E:Env} {b g:Nat} {s3:St} {W w2 w5:World} {f:Flat} {sd:Value} {n:Nat} {xs:List Value} {ob:Obj} (hI:IB (g) f nil sd nil nil w2) (hR:IB W.heap.size flat0 nil nil nil nil w2) (hO:w2.ownsRow (g+1) 24 3 sd n xs) (hA:After E b s3 W w2) (hb:b<W.heap.size) (hgW:W.heap.size<g)
  (hg:(w2.alloc ob).grownBy w5 sd.ownBlock):IB (g) f nil sd nil nil w5∧IB W.heap.size flat0 nil nil nil nil w5∧After E b s3 W w5:=
 ⟨kq9 hg hI (fun q hq e=>by have:=(own_lt hO q hq).1;omega),kq9 hg hR (fun q hq e=>by have:=(own_lt hO q hq).1;omega),hA.grown hg (fun q hq=>by have:=(own_lt hO q hq).1;omega) hb⟩
theorem ent_date (args:Array Value) (W:World):(callFunc 26 args).run Tryd.prog W= .ok (.enter 26 args) W:=by kernel_rfl
theorem item_p5 (E:Env) (b:Nat) (s:St) (W:World) (h:PW E b s W) (i:Bool) (hk:rkind i s rwords=5) (t:Tok) (r:List Tok) (hr:s.rest=t::r) (he:s.err=0) (hit:s.items≠600) (R:List Civil) (sr:St) (u2:Unit) (s2:St) (h1:long datesMore ⟨r,s.items+1,0⟩=(R,sr)) (h2:expect [[59]] sr=(u2,s2)):
  Calls Tryd.prog 28 #[.pointer (some ⟨b,0,none⟩),.bool i] W fun e w'=>(∃sc sd sn,e= .returned (.agg (icells {flat0 with kind:=5,pos:=t.pos,dates:=R} sc sd sn nil).toArray)∧FlatOK W.heap.size {flat0 with kind:=5,pos:=t.pos,dates:=R} sc sd sn w')∧After E b s2 W w':=by
 have H1:=hdd h1;clear h1
 have H2:=hdd h2;clear h2
 obtain ⟨i0,hi,hz0,hz1,hz2⟩:=info_parts info_civil
 have hbl:=h.2.2.1
 have hln:=h.1
 have HP:=hdd h;have HK:=hdd hk;have HR0:=hdd hr;have HE0:=hdd he
 have d6: ¬(600:Int)≤(s.items:Int):=by have:=h.2.1;omega
 clear h hk hr he hit
 go_enter Tryd.func28,Tryd.ntmps28
 go_wp2_with fail
 refine (jv1 E b s _ ((After.start HP.o).alloc _).1 i).mono ?_
 rw [HK.o]
 rintro e w1 ⟨rfl,hA⟩
 have HR1:Hid (IB W.heap.size flat0 nil nil nil nil w1):=hA.2.blk (jq5 (by simp)) (by omega)
 have HA1:=hdd (((After.start HP.o).alloc _).trans hA)
 have hs1:W.heap.size<w1.heap.size:=jq7 HR1.o
 clear hA
 obtain ⟨g,HG⟩: ∃q,Hid (w1.heap.size=q):=⟨_,rfl⟩
 obtain ⟨w2,hw2⟩: ∃u,w1.alloc (.cells (icells {flat0 with kind:=5} nil nil nil nil).toArray 57)=u:=⟨_,rfl⟩
 have HI2:Hid (IB g {flat0 with kind:=5} nil nil nil nil w2):=by rw [←hw2];exact jq5 HG.o.symm
 have HA2:Hid (After E b s W w2):=by rw [←hw2];exact HA1.o.alloc _
 have HR2:Hid (IB W.heap.size flat0 nil nil nil nil w2):=by rw [←hw2];exact jq9 HR1.o _
 have hgW:W.heap.size<g:=by have:=HG.o;omega
 have HW2:=hdd hw2
 clear hw2 HA1 HR1
 go_upto_region 2 with (first|(refine wpList_build rfl 57 _ rfl #[(0,.int .i64 ((5:Nat):Int))] ?_ _ (jz6 5 _) ?_;(simp [Act.eval]))|(refine jq4 rfl 57 _ _ rfl rfl (icells {flat0 with kind:=5} nil nil nil nil).toArray rfl (jq6 _ _ _ _ _) (ic1 ..) (by rfl) ?_))
 rw [HW2.o,HG.o]
 clear HW2
 have k0:w2.cell? ⟨g,0,none⟩=some (.int .i64 5):=jq0 HI2.o 0
 go_upto_region 5 with fail
 clear k0
 obtain ⟨_,hit,hb2,hpt,n0,h1',h2',hblk⟩:=id HA2.o.1
 have hd:t::r=E.ts.drop n0:=by rw [←HR0.o];exact h2'
 obtain ⟨hn,hti,hr2⟩:=jz2 hd
 obtain ⟨gt,ot,hAd,hgt,hct⟩:=hpt.2 (by omega)
 obtain ⟨_,_,_,q3⟩:=hct n0 hn
 rw [hti] at q3
 have c0:w2.cell? ⟨b,0,none⟩=some (.slice (some ⟨gt,ot,none⟩) E.ts.length E.cap):=by rw [←hAd];exact jq0 hblk 0
 have c1:w2.cell? ⟨b,1,none⟩=some (.int .i64 (n0:Int)):=jq0 hblk 1
 have x2:w2.cell? ⟨g,2,none⟩=some (.int .i64 0):=jq0 HI2.o 2
 have y2:w2.frozen? ⟨g,2,none⟩=false:=jq1 HI2.o 2
 have i1:(0:Int)≤(n0:Int):=Int.natCast_nonneg _
 have i2:(n0:Int)<(E.ts.length:Int):=by omega
 have hbg:b≠g:=by omega
 have htg:gt≠g:=by omega
 have g0:(w2.setCell ⟨g,2,none⟩ (.int .i64 (t.pos:Int))).drew.cell? ⟨b,0,none⟩=some (.slice (some ⟨gt,ot,none⟩) E.ts.length E.cap):=by
  show (w2.setCell ⟨g,2,none⟩ (.int .i64 (t.pos:Int))).cell? ⟨b,0,none⟩=_
  exact (jz0 hbg).trans c0
 have g1:(w2.setCell ⟨g,2,none⟩ (.int .i64 (t.pos:Int))).drew.cell? ⟨b,1,none⟩=some (.int .i64 (n0:Int)):=by
  show (w2.setCell ⟨g,2,none⟩ (.int .i64 (t.pos:Int))).cell? ⟨b,1,none⟩=_
  exact (jz0 hbg).trans c1
 have g3:(w2.setCell ⟨g,2,none⟩ (.int .i64 (t.pos:Int))).drew.cell? ⟨gt,ot+n0*4+3,none⟩=some (.int .i64 (t.pos:Int)):=by
  show (w2.setCell ⟨g,2,none⟩ (.int .i64 (t.pos:Int))).cell? ⟨gt,ot+n0*4+3,none⟩=_
  exact (jz0 htg).trans q3
 have HBLK:=hdd hblk;have HPT:=hdd hpt;have HRR:=hdd hr2
 clear hblk hpt hr2 hd hti hct h2' hAd
 go_region_held3 (fun w'=>w'.cell? ⟨b,0,none⟩=some (.slice (some ⟨gt,ot,none⟩) E.ts.length E.cap)∧w'.cell? ⟨b,1,none⟩=some (.int .i64 (n0:Int))∧w'.cell? ⟨gt,ot+n0*4+3,none⟩=some (.int .i64 (t.pos:Int))) (first|go_keep|(go_split_ands;refine ⟨?_,?_,?_⟩<;>first|assumption|exact c0|exact c1|exact q3|exact g0|exact g1|exact g3)) (fail)
 clear c0 c1 x2 y2 g0 g1 g3 q3
 obtain ⟨w3,hw3⟩: ∃u,(w2.setCell ⟨g,2,none⟩ (.int .i64 (t.pos:Int))).drewN 1=u:=⟨_,rfl⟩
 have HI3:Hid (IB g {flat0 with kind:=5,pos:=t.pos} nil nil nil nil w3):=by rw [←hw3];exact jx2 (IB.set_pos HI2.o t.pos) 1
 have HR3:Hid (IB W.heap.size flat0 nil nil nil nil w3):=by rw [←hw3];exact jx2 (jq2 HR2.o (by omega) _) 1
 have HB3:Hid (w3.heap[b]?=some (.cells (pcells E n0 s) 71 (0,0))):=by rw [←hw3];exact jx2 (jq2 HBLK.o (by omega) _) 1
 have HF3:Hid (Fr (fun k=>k=b) W w3):=by rw [←hw3];exact (HA2.o.2.setCell (p:=⟨g,2,none⟩) (.inr (by show W.heap.size≤g;omega)) _).drewN 1
 have HW3:Hid ((w2.setCell ⟨g,2,none⟩ (.int .i64 (t.pos:Int))).drew=w3):=hw3
 clear hw3 HI2 HR2 HBLK
 rw [HW3.o]
 clear HW3
 have c1:w3.cell? ⟨b,1,none⟩=some (.int .i64 (n0:Int)):=jq0 HB3.o 1
 have f1:w3.frozen? ⟨b,1,none⟩=false:=jq1 HB3.o 1
 have c3:w3.cell? ⟨b,3,none⟩=some (.int .i64 (s.items:Int)):=jq0 HB3.o 3
 have f3:w3.frozen? ⟨b,3,none⟩=false:=jq1 HB3.o 3
 have w6:IntKind.i64.wrap ((s.items:Int)+1)=(s.items:Int)+1:=IntWalk.i64_in _ (by omega)
 have w7:IntKind.i64.wrap ((n0:Int)+1)=(n0:Int)+1:=IntWalk.i64_in _ (by omega)
 go_upto_region 12 with fail
 obtain ⟨w4,hw4⟩: ∃u,(w3.setCell ⟨b,3,none⟩ (.int .i64 ((s.items:Int)+1))).setCell ⟨b,1,none⟩ (.int .i64 ((n0:Int)+1))=u:=⟨_,rfl⟩
 have HF4:Hid (Fr (fun k=>k=b) W w4):=by rw [←hw4];exact (HF3.o.setb 3 _).setb 1 _
 have HI:Hid (IB g {flat0 with kind:=5,pos:=t.pos} nil nil nil nil w4):=by rw [←hw4];exact jq2 (jq2 HI3.o (by omega) _) (by omega) _
 have HR:Hid (IB W.heap.size flat0 nil nil nil nil w4):=by rw [←hw4];exact jq2 (jq2 HR3.o (by omega) _) (by omega) _
 have HA:Hid (After E b ⟨r,s.items+1,0⟩ W w4):=by
  have hbk:=jv8 HB3.o HE0.o
  rw [hw4,HR0.o] at hbk
  exact ⟨mod_PW HP.o HF4.o (by show s.items+1≤600;omega) (by omega) HRR.o hbk,HF4.o⟩
 rw [hw4]
 clear hw4 HF4 HI3 HR3 HB3 HF3 HA2 c1 f1 c3 f3 w6 w7 HPT HRR
 have hln2:=HA.o.1.len
 have hln3:r.length≤5000:=hln2
 have k_0:w4.cell? ⟨g,0,none⟩=some (.int .i64 5):=jq0 HI.o 0
 go_wp2_with fail
 clear k_0
 go_loopw [7] (fun v wr=>HRel E b W g t.pos R sr v wr) (fun v wr=>2*lft E b wr+boolNat v)
 case atStart=>exact ⟨true,[],⟨r,s.items+1,0⟩,nil,rfl,HI.o,HR.o,World.ownsRow_nil _ _ _ _,HA.o,by show 0+r.length+1≤5002;omega,fun _=>⟨_,Nat.lt_succ_self _,H1.o⟩,(fun h=>by cases h)⟩
 case round=>
  obtain ⟨m,l,s',sd,rfl,hI,hR,hO,hA,hb,hT,hF⟩:=hrel
  have hlf:=hA.1.lft
  obtain ⟨A5,cap5,rfl⟩:=own_form hO
  have HA:=hdd hA;clear hA
  have HI:=hdd hI;clear hI
  have HR:=hdd hR;clear hR
  have HO:=hdd hO;clear hO
  cases m with
  |true=>
   obtain ⟨n,hn,hX⟩:=hT rfl
   clear hT hF
   obtain ⟨n,rfl⟩: ∃z,n=z+1:=⟨n-1,by omega⟩
   rw [jk7] at hX
   obtain ⟨x,s3,hd⟩: ∃x s3,date s'=(x,s3):=⟨_,_,rfl⟩
   have m1:=Mono.date s'
   rw [hd] at hX m1
   have hb':l.length+s'.rest.length+1≤5002:=hb
   have HX:=hdd hX;have HD:=hdd hd;have HLF:=hdd hlf
   clear hX hd hlf hb
   have k30:wr.cell? ⟨g,30,none⟩=some (.slice A5 l.length cap5):=jq0 HI.o 30
   have HAd:Hid (After E b s' W wr.drew):=HA.o.drewN 1
   have HId:Hid (IB (g) {flat0 with kind:=5,pos:=t.pos} nil (.slice A5 l.length cap5) nil nil wr.drew):=HI.o
   have HRd:Hid (IB W.heap.size flat0 nil nil nil nil wr.drew):=HR.o
   have HOd:Hid (wr.drew.ownsRow (g+1) 24 3 (.slice A5 l.length cap5) l.length (l.flatMap dval)):=HO.o
   go_wp2_with fail
   go_region_law (first|(refine step_call1 rfl 26 _ _ rfl ent_date (.pointer (some ⟨b,0,none⟩)) (by rfl) (date_any E b s' wr.drew HAd.o.1) ?_;rw [HD.o];rintro e w2 ⟨rfl,hA2⟩;refine ⟨_,rfl,?_⟩;have HA2:=hdd (HAd.o.trans hA2);have HI2:Hid (IB (g) {flat0 with kind:=5,pos:=t.pos} nil (.slice A5 l.length cap5) nil nil w2):=(hA2.2.blk HId.o (by omega));have HR2:Hid (IB W.heap.size flat0 nil nil nil nil w2):=(hA2.2.blk HRd.o (by omega));have HO2:=hdd (jx5 HOd.o hA2.2 (fun k hk _ e=>by omega));have j30:w2.cell? ⟨g,30,none⟩=some (.slice A5 l.length cap5):=(jq0 HI2.o 30);have j30a: ∀o,(w2.alloc o).cell? ⟨g,30,none⟩=some (.slice A5 l.length cap5):=(fun o=>jq0 (jq9 HI2.o o) 30);have hz2w:g<w2.heap.size:=(jq7 HI2.o);clear hA2)|(refine step_append_lies _ rfl (.tmp 78) (.tmp 81) 54 rfl (g+1) 24 i0 _ 3 24 Tryd.underlying54 hi hz0 hz1 hz2 rfl (by decide) (.slice A5 l.length cap5) l.length _ (by rfl) (HO2.o.alloc _) ⟨w2.heap.size,0,none⟩ 1 1 (dval x) (by rfl) (by rfl) (World.news_of_block (cs:= #[.int .i64 (x.y:Int),.int .i64 (x.m:Int),.int .i64 (x.d:Int)]) (t:=24) (fr:=(0,0)) (heap_alloc_new w2 _)) (by simp [dval,Value.oneCell']) (by decide) (by simp only [maxLen];omega) (by omega) (by simp only [World.size_alloc];omega) (w2.heap.size+1) (by simp) ?_;intro gg cap1 w5 hown5 hgrow hat hlt5;have hg5:=holi_app HI2.o HR2.o HO2.o HA2.o hbl hgW hgrow;have e0:w5.cell? ⟨g,30,none⟩=some (.slice A5 l.length cap5):=(jq0 hg5.1 30);have e1:w5.frozen? ⟨g,30,none⟩=false:=(jq1 hg5.1 30);have HG5:=hdd hg5;have HO5:=hdd hown5;clear hg5 hown5 hgrow hat))
   all_goals
    have HI6:=hdd (IB.set_sd HG5.o.1 (.slice (some ⟨gg,0,none⟩) (l.length+1) cap1))
    have HR6:Hid (IB W.heap.size flat0 nil nil nil nil _):=jq2 (q:=g) (i:=30) HG5.o.2.1 (by omega) (.slice (some ⟨gg,0,none⟩) (l.length+1) cap1)
    have HA6:=hdd (HG5.o.2.2.set (q:=g) (i:=30) (by omega) (by omega) (.slice (some ⟨gg,0,none⟩) (l.length+1) cap1))
    have HO6:=hdd (jv0 (c:=g) (i:=30) HO5.o (fun g hg=>by have:=(own_lt HO5.o g hg).1;omega) (.slice (some ⟨gg,0,none⟩) (l.length+1) cap1))
    clear HI HR HO HA HAd HId HRd HOd HI2 HR2 HO2 HA2 HG5 HO5 e0 e1 j30 j30a k30
    cases ha:(acc [44] s3).1 with
    |true=>
     obtain ⟨hl1,_⟩:=jk3 ha
     have hX3:(l++x::(datesMore n (acc [44] s3).2).1,(datesMore n (acc [44] s3).2).2)=(R,sr):=by have:=HX.o;rw [if_pos ha] at this;exact this
     have HX3:=hdd hX3
     have HAA:=hdd ha
     clear hX3 ha
     go_wp2_with fail
     refine (jx8 E b s3 [44] _ HA6.o.1 (nd_of (by decide))).mono ?_
     rw [HAA.o]
     rintro e w7 ⟨rfl,hA7⟩
     have HA7:=hdd (HA6.o.trans hA7)
     have hlf7:=HA7.o.1.lft
     have HN:Hid (HRel E b W g t.pos R sr (.bool true) w7):=by
      refine ⟨true,l++ [x],_,_,rfl,hA7.2.blk HI6.o (by omega),hA7.2.blk HR6.o (by omega),?_,HA7.o,?_,fun _=>⟨n,by omega,by rw [←HX3.o];simp⟩,(fun h=>by cases h)⟩
      ·rw [List.length_append,List.flatMap_append]
       have: [x].flatMap dval=dval x:=by simp
       rw [this]
       exact jx5 HO6.o hA7.2 (fun k hk _ e=>by omega)
      ·simp only [List.length_append,List.length_cons,List.length_nil];show _+1≤5002;omega
     have HM:Hid (2*lft E b w7+boolNat (.bool true)<2*lft E b wr+boolNat (.bool true)):=by show _<_;rw [hlf7,HLF.o];show 2*_+1<2*_+1;omega
     clear hA7 hlf7 HI6 HR6 HO6 HA6
     go_wp2_with fail
     go_roundw
     case rel=>exact HN.o
     case measure=>exact HM.o
    |false=>
     have hm3:=Mono.acc [44] s3
     have hX3:(l++ [x],(acc [44] s3).2)=(R,sr):=by have:=HX.o;rw [if_neg (by rw [ha];simp)] at this;exact this
     have HX3:=hdd hX3
     have HAA:=hdd ha
     clear hX3 ha
     go_wp2_with fail
     refine (jx8 E b s3 [44] _ HA6.o.1 (nd_of (by decide))).mono ?_
     rw [HAA.o]
     rintro e w7 ⟨rfl,hA7⟩
     have HA7:=hdd (HA6.o.trans hA7)
     have hlf7:=HA7.o.1.lft
     have HN:Hid (HRel E b W g t.pos R sr (.bool false) w7):=by
      refine ⟨false,l++ [x],_,_,rfl,hA7.2.blk HI6.o (by omega),hA7.2.blk HR6.o (by omega),?_,HA7.o,?_,(fun h=>by cases h),fun _=>HX3.o⟩
      ·rw [List.length_append,List.flatMap_append]
       have: [x].flatMap dval=dval x:=by simp
       rw [this]
       exact jx5 HO6.o hA7.2 (fun k hk _ e=>by omega)
      ·simp only [List.length_append,List.length_cons,List.length_nil];show _+0≤5002;omega
     have HM:Hid (2*lft E b w7+boolNat (.bool false)<2*lft E b wr+boolNat (.bool true)):=by show _<_;rw [hlf7,HLF.o];show 2*_+0<2*_+1;omega
     clear hA7 hlf7 HI6 HR6 HO6 HA6
     go_wp2_with fail
     go_roundw
     case rel=>exact HN.o
     case measure=>exact HM.o
  |false=>
   have e:=hF rfl
   injection e with e1 e2
   subst e1 e2
   clear hT hF hlf
   go_wp2_with fail
   refine (jx3 E b s' [59] _ HA.o.1 (nd_of (by decide))).mono ?_
   rw [H2.o]
   rintro e w6 ⟨rfl,hA6⟩
   have HI6:Hid (IB (g) {flat0 with kind:=5,pos:=t.pos,dates:=l} nil (.slice A5 l.length cap5) nil nil w6):=hA6.2.blk HI.o (by omega)
   have HR6:Hid (IB W.heap.size flat0 nil nil nil nil w6):=hA6.2.blk HR.o (by omega)
   have HO6:=hdd (jx5 HO.o hA6.2 (fun k hk _ e=>by omega))
   have HA6:=hdd (HA.o.trans hA6);clear hA6 HA HI HR HO
   obtain ⟨w99,hw99,hA99,hl99,ho99⟩:=item_end HR6.o HA6.o hbl {flat0 with kind:=5,pos:=t.pos,dates:=l} nil (.slice A5 l.length cap5) nil nil
   have R99:=hdd (own_base (ho99 _ _ _ _ _ _ (by omega) HO6.o) (by omega:W.heap.size≤_))
   have HW99:=hdd hw99;clear hw99
   have HA99:=hdd hA99;clear hA99
   have HL99:=hdd hl99;clear hl99 ho99
   go_wp2_with (first|(refine wpList_load_mid rfl 57 _ rfl (g) 0 rfl (icells {flat0 with kind:=5,pos:=t.pos,dates:=l} nil (.slice A5 l.length cap5) nil nil) _ HI6.o.range Tryd.underlying57 rfl (jx6 _ _ _ _ _) ?_)|(refine wpList_store_mid rfl 57 _ _ rfl W.heap.size 0 (icells {flat0 with kind:=5,pos:=t.pos,dates:=l} nil (.slice A5 l.length cap5) nil nil).toArray rfl rfl (HR6.o.there' _ _ _ _ _) (jq6 _ _ _ _ _) (ic1 ..) ?_;rw [HW99.o]))
   exact bodyPost_ret (v:= .agg (icells {flat0 with kind:=5,pos:=t.pos,dates:=l} nil (.slice A5 l.length cap5) nil nil).toArray) (jq8 Tryd.results28 rfl HL99.o) rfl ⟨⟨nil,_,nil,rfl,World.ownsRow_nil _ _ _ _,R99.o,World.ownsRow_nil _ _ _ _⟩,HA99.o⟩
def KRel (E:Env) (b:Nat) (W:World) (g p:Nat) (R:List Bool) (sr:St) (v:Value) (wr:World):Prop:=
 ∃(m:Bool) (l:List Bool) (s':St),v= .bool m∧IB g {flat0 with kind:=4,pos:=p,days:=l} nil nil nil nil wr∧IB W.heap.size flat0 nil nil nil nil wr∧After E b s' W wr∧l.length=7∧
  (m=true→ ∃n,s'.rest.length<n∧rweekMore n l s'=(R,sr))∧(m=false→(l,s')=(R,sr))
theorem rweekMore_succ (f:Nat) (l:List Bool) (s:St):rweekMore (f+1) l s=if (acc [44] (weekday s).2).1 then rweekMore f (l.set (weekday s).1 true) (acc [44] (weekday s).2).2 else (l.set (weekday s).1 true,(acc [44] (weekday s).2).2):=by
 show (if (acc [44] (weekday s).2).1 then rweekMore f (l.set (weekday s).1 true) else Pr.ret (l.set (weekday s).1 true)) (acc [44] (weekday s).2).2=_
 cases (acc [44] (weekday s).2).1<;>rfl
theorem item_p4 (E:Env) (b:Nat) (s:St) (W:World) (h:PW E b s W) (i:Bool) (hk:rkind i s rwords=4) (t:Tok) (r:List Tok) (hr:s.rest=t::r) (he:s.err=0) (hit:s.items≠600) (R:List Bool) (sr:St) (u2:Unit) (s2:St) (h1:long (fun f=>rweekMore f flat0.days) ⟨r,s.items+1,0⟩=(R,sr)) (h2:expect [[59]] sr=(u2,s2)):
  Calls Tryd.prog 28 #[.pointer (some ⟨b,0,none⟩),.bool i] W fun e w'=>(∃sc sd sn,e= .returned (.agg (icells {flat0 with kind:=4,pos:=t.pos,days:=R} sc sd sn nil).toArray)∧FlatOK W.heap.size {flat0 with kind:=4,pos:=t.pos,days:=R} sc sd sn w')∧After E b s2 W w':=by
 have H1:=hdd h1;clear h1
 have H2:=hdd h2;clear h2
 have hbl:=h.2.2.1
 have hln:=h.1
 have HP:=hdd h;have HK:=hdd hk;have HR0:=hdd hr;have HE0:=hdd he
 have d6: ¬(600:Int)≤(s.items:Int):=by have:=h.2.1;omega
 clear h hk hr he hit
 go_enter Tryd.func28,Tryd.ntmps28
 go_wp2_with fail
 refine (jv1 E b s _ ((After.start HP.o).alloc _).1 i).mono ?_
 rw [HK.o]
 rintro e w1 ⟨rfl,hA⟩
 have HR1:Hid (IB W.heap.size flat0 nil nil nil nil w1):=hA.2.blk (jq5 (by simp)) (by omega)
 have HA1:=hdd (((After.start HP.o).alloc _).trans hA)
 have hs1:W.heap.size<w1.heap.size:=jq7 HR1.o
 clear hA
 obtain ⟨g,HG⟩: ∃q,Hid (w1.heap.size=q):=⟨_,rfl⟩
 obtain ⟨w2,hw2⟩: ∃u,w1.alloc (.cells (icells {flat0 with kind:=4} nil nil nil nil).toArray 57)=u:=⟨_,rfl⟩
 have HI2:Hid (IB g {flat0 with kind:=4} nil nil nil nil w2):=by rw [←hw2];exact jq5 HG.o.symm
 have HA2:Hid (After E b s W w2):=by rw [←hw2];exact HA1.o.alloc _
 have HR2:Hid (IB W.heap.size flat0 nil nil nil nil w2):=by rw [←hw2];exact jq9 HR1.o _
 have hgW:W.heap.size<g:=by have:=HG.o;omega
 have HW2:=hdd hw2
 clear hw2 HA1 HR1
 go_upto_region 2 with (first|(refine wpList_build rfl 57 _ rfl #[(0,.int .i64 ((4:Nat):Int))] ?_ _ (jz6 4 _) ?_;(simp [Act.eval]))|(refine jq4 rfl 57 _ _ rfl rfl (icells {flat0 with kind:=4} nil nil nil nil).toArray rfl (jq6 _ _ _ _ _) (ic1 ..) (by rfl) ?_))
 rw [HW2.o,HG.o]
 clear HW2
 have k0:w2.cell? ⟨g,0,none⟩=some (.int .i64 4):=jq0 HI2.o 0
 go_upto_region 5 with fail
 clear k0
 obtain ⟨_,hit,hb2,hpt,n0,h1',h2',hblk⟩:=id HA2.o.1
 have hd:t::r=E.ts.drop n0:=by rw [←HR0.o];exact h2'
 obtain ⟨hn,hti,hr2⟩:=jz2 hd
 obtain ⟨gt,ot,hAd,hgt,hct⟩:=hpt.2 (by omega)
 obtain ⟨_,_,_,q3⟩:=hct n0 hn
 rw [hti] at q3
 have c0:w2.cell? ⟨b,0,none⟩=some (.slice (some ⟨gt,ot,none⟩) E.ts.length E.cap):=by rw [←hAd];exact jq0 hblk 0
 have c1:w2.cell? ⟨b,1,none⟩=some (.int .i64 (n0:Int)):=jq0 hblk 1
 have x2:w2.cell? ⟨g,2,none⟩=some (.int .i64 0):=jq0 HI2.o 2
 have y2:w2.frozen? ⟨g,2,none⟩=false:=jq1 HI2.o 2
 have i1:(0:Int)≤(n0:Int):=Int.natCast_nonneg _
 have i2:(n0:Int)<(E.ts.length:Int):=by omega
 have hbg:b≠g:=by omega
 have htg:gt≠g:=by omega
 have g0:(w2.setCell ⟨g,2,none⟩ (.int .i64 (t.pos:Int))).drew.cell? ⟨b,0,none⟩=some (.slice (some ⟨gt,ot,none⟩) E.ts.length E.cap):=by
  show (w2.setCell ⟨g,2,none⟩ (.int .i64 (t.pos:Int))).cell? ⟨b,0,none⟩=_
  exact (jz0 hbg).trans c0
 have g1:(w2.setCell ⟨g,2,none⟩ (.int .i64 (t.pos:Int))).drew.cell? ⟨b,1,none⟩=some (.int .i64 (n0:Int)):=by
  show (w2.setCell ⟨g,2,none⟩ (.int .i64 (t.pos:Int))).cell? ⟨b,1,none⟩=_
  exact (jz0 hbg).trans c1
 have g3:(w2.setCell ⟨g,2,none⟩ (.int .i64 (t.pos:Int))).drew.cell? ⟨gt,ot+n0*4+3,none⟩=some (.int .i64 (t.pos:Int)):=by
  show (w2.setCell ⟨g,2,none⟩ (.int .i64 (t.pos:Int))).cell? ⟨gt,ot+n0*4+3,none⟩=_
  exact (jz0 htg).trans q3
 have HBLK:=hdd hblk;have HPT:=hdd hpt;have HRR:=hdd hr2
 clear hblk hpt hr2 hd hti hct h2' hAd
 go_region_held3 (fun w'=>w'.cell? ⟨b,0,none⟩=some (.slice (some ⟨gt,ot,none⟩) E.ts.length E.cap)∧w'.cell? ⟨b,1,none⟩=some (.int .i64 (n0:Int))∧w'.cell? ⟨gt,ot+n0*4+3,none⟩=some (.int .i64 (t.pos:Int))) (first|go_keep|(go_split_ands;refine ⟨?_,?_,?_⟩<;>first|assumption|exact c0|exact c1|exact q3|exact g0|exact g1|exact g3)) (fail)
 clear c0 c1 x2 y2 g0 g1 g3 q3
 obtain ⟨w3,hw3⟩: ∃u,(w2.setCell ⟨g,2,none⟩ (.int .i64 (t.pos:Int))).drewN 1=u:=⟨_,rfl⟩
 have HI3:Hid (IB g {flat0 with kind:=4,pos:=t.pos} nil nil nil nil w3):=by rw [←hw3];exact jx2 (IB.set_pos HI2.o t.pos) 1
 have HR3:Hid (IB W.heap.size flat0 nil nil nil nil w3):=by rw [←hw3];exact jx2 (jq2 HR2.o (by omega) _) 1
 have HB3:Hid (w3.heap[b]?=some (.cells (pcells E n0 s) 71 (0,0))):=by rw [←hw3];exact jx2 (jq2 HBLK.o (by omega) _) 1
 have HF3:Hid (Fr (fun k=>k=b) W w3):=by rw [←hw3];exact (HA2.o.2.setCell (p:=⟨g,2,none⟩) (.inr (by show W.heap.size≤g;omega)) _).drewN 1
 have HW3:Hid ((w2.setCell ⟨g,2,none⟩ (.int .i64 (t.pos:Int))).drew=w3):=hw3
 clear hw3 HI2 HR2 HBLK
 rw [HW3.o]
 clear HW3
 have c1:w3.cell? ⟨b,1,none⟩=some (.int .i64 (n0:Int)):=jq0 HB3.o 1
 have f1:w3.frozen? ⟨b,1,none⟩=false:=jq1 HB3.o 1
 have c3:w3.cell? ⟨b,3,none⟩=some (.int .i64 (s.items:Int)):=jq0 HB3.o 3
 have f3:w3.frozen? ⟨b,3,none⟩=false:=jq1 HB3.o 3
 have w6:IntKind.i64.wrap ((s.items:Int)+1)=(s.items:Int)+1:=IntWalk.i64_in _ (by omega)
 have w7:IntKind.i64.wrap ((n0:Int)+1)=(n0:Int)+1:=IntWalk.i64_in _ (by omega)
 go_upto_region 12 with fail
 obtain ⟨w4,hw4⟩: ∃u,(w3.setCell ⟨b,3,none⟩ (.int .i64 ((s.items:Int)+1))).setCell ⟨b,1,none⟩ (.int .i64 ((n0:Int)+1))=u:=⟨_,rfl⟩
 have HF4:Hid (Fr (fun k=>k=b) W w4):=by rw [←hw4];exact (HF3.o.setb 3 _).setb 1 _
 have HI:Hid (IB g {flat0 with kind:=4,pos:=t.pos} nil nil nil nil w4):=by rw [←hw4];exact jq2 (jq2 HI3.o (by omega) _) (by omega) _
 have HR:Hid (IB W.heap.size flat0 nil nil nil nil w4):=by rw [←hw4];exact jq2 (jq2 HR3.o (by omega) _) (by omega) _
 have HA:Hid (After E b ⟨r,s.items+1,0⟩ W w4):=by
  have hbk:=jv8 HB3.o HE0.o
  rw [hw4,HR0.o] at hbk
  exact ⟨mod_PW HP.o HF4.o (by show s.items+1≤600;omega) (by omega) HRR.o hbk,HF4.o⟩
 rw [hw4]
 clear hw4 HF4 HI3 HR3 HB3 HF3 HA2 c1 f1 c3 f3 w6 w7 HPT HRR
 have k_0:w4.cell? ⟨g,0,none⟩=some (.int .i64 4):=jq0 HI.o 0
 go_wp2_with fail
 clear k_0
 go_loopw [6] (fun v wr=>KRel E b W g t.pos R sr v wr) (fun v wr=>2*lft E b wr+boolNat v)
 case atStart=>exact ⟨true,flat0.days,⟨r,s.items+1,0⟩,rfl,HI.o,HR.o,HA.o,rfl,fun _=>⟨_,Nat.lt_succ_self _,H1.o⟩,(fun h=>by cases h)⟩
 case round=>
  obtain ⟨m,l,s',rfl,hI,hR,hA,hl7,hT,hF⟩:=hrel
  have hlf:=hA.1.lft
  clear HA HI HR
  have HA:=hdd hA;clear hA
  have HI:=hdd hI;clear hI
  have HR:=hdd hR;clear hR
  have HL7:=hdd hl7;clear hl7
  cases m with
  |true=>
   obtain ⟨n,hn,hX⟩:=hT rfl
   clear hT hF
   obtain ⟨n,rfl⟩: ∃z,n=z+1:=⟨n-1,by omega⟩
   rw [rweekMore_succ] at hX
   obtain ⟨d,s3,hd⟩: ∃d s3,weekday s'=(d,s3):=⟨_,_,rfl⟩
   have hd2:anyOf wdays 0 s'=(d,s3):=hd
   have m1:=Mono.anyOf wdays 0 s'
   have hlt:=anyOf_lt wdays 0 7 s' (by decide) (by decide)
   rw [hd2] at m1 hlt
   rw [hd] at hX
   have hlt7:d<7:=hlt
   have HX:=hdd hX;have HD:=hdd hd;have HLF:=hdd hlf
   clear hX hd hd2 hlf hlt
   have i1:(0:Int)≤(d:Int):=Int.natCast_nonneg _
   have i2:(d:Int)<7:=by omega
   go_wp2_with fail
   refine (day_any E b s' _ HA.o.1).mono ?_
   rw [HD.o]
   rintro e w2 ⟨rfl,hA2⟩
   have HI2:Hid (IB g {flat0 with kind:=4,pos:=t.pos,days:=l} nil nil nil nil w2):=hA2.2.blk HI.o (by omega)
   have HR2:Hid (IB W.heap.size flat0 nil nil nil nil w2):=hA2.2.blk HR.o (by omega)
   have HA2:=hdd (HA.o.trans hA2);clear hA2 HA HI HR
   obtain ⟨vd,kd⟩:=HI2.o.day d hlt7
   have fd:w2.frozen? ⟨g,23+d,none⟩=false:=jq1 HI2.o _
   have HI6:=hdd (IB.set_day (f:= {flat0 with kind:=4,pos:=t.pos}) HI2.o HL7.o d hlt7)
   have HR6:Hid (IB W.heap.size flat0 nil nil nil nil _):=jq2 (q:=g) (i:=23+d) HR2.o (by omega) (.bool true)
   have HA6:=hdd (HA2.o.set (q:=g) (i:=23+d) (by omega) (by omega) (.bool true))
   clear HI2 HR2 HA2
   cases ha:(acc [44] s3).1 with
   |true=>
    obtain ⟨hl1,_⟩:=jk3 ha
    have hX3:rweekMore n (l.set d true) (acc [44] s3).2=(R,sr):=by have:=HX.o;rw [if_pos ha] at this;exact this
    have HX3:=hdd hX3
    have HAA:=hdd ha
    clear hX3 ha
    go_wp2_with fail
    refine (jx8 E b s3 [44] _ HA6.o.1 (nd_of (by decide))).mono ?_
    rw [HAA.o]
    rintro e w7 ⟨rfl,hA7⟩
    have HA7:=hdd (HA6.o.trans hA7)
    have hlf7:=HA7.o.1.lft
    have HN:Hid (KRel E b W g t.pos R sr (.bool true) w7):=by
     refine ⟨true,l.set d true,_,rfl,hA7.2.blk HI6.o (by omega),hA7.2.blk HR6.o (by omega),HA7.o,by rw [List.length_set];exact HL7.o,fun _=>⟨n,by omega,HX3.o⟩,(fun h=>by cases h)⟩
    have HM:Hid (2*lft E b w7+boolNat (.bool true)<2*lft E b wr+boolNat (.bool true)):=by show _<_;rw [hlf7,HLF.o];show 2*_+1<2*_+1;omega
    clear hA7 hlf7 HI6 HR6 HA6 kd fd
    go_wp2_with fail
    go_roundw
    case rel=>exact HN.o
    case measure=>exact HM.o
   |false=>
    have hm3:=Mono.acc [44] s3
    have hX3:(l.set d true,(acc [44] s3).2)=(R,sr):=by have:=HX.o;rw [if_neg (by rw [ha];simp)] at this;exact this
    have HX3:=hdd hX3
    have HAA:=hdd ha
    clear hX3 ha
    go_wp2_with fail
    refine (jx8 E b s3 [44] _ HA6.o.1 (nd_of (by decide))).mono ?_
    rw [HAA.o]
    rintro e w7 ⟨rfl,hA7⟩
    have HA7:=hdd (HA6.o.trans hA7)
    have hlf7:=HA7.o.1.lft
    have HN:Hid (KRel E b W g t.pos R sr (.bool false) w7):=by
     refine ⟨false,l.set d true,_,rfl,hA7.2.blk HI6.o (by omega),hA7.2.blk HR6.o (by omega),HA7.o,by rw [List.length_set];exact HL7.o,(fun h=>by cases h),fun _=>HX3.o⟩
    have HM:Hid (2*lft E b w7+boolNat (.bool false)<2*lft E b wr+boolNat (.bool true)):=by show _<_;rw [hlf7,HLF.o];show 2*_+0<2*_+1;omega
    clear hA7 hlf7 HI6 HR6 HA6 kd fd
    go_wp2_with fail
    go_roundw
    case rel=>exact HN.o
    case measure=>exact HM.o
  |false=>
   have e:=hF rfl
   injection e with e1 e2
   subst e1 e2
   clear hT hF hlf
   go_wp2_with fail
   refine (jx3 E b s' [59] _ HA.o.1 (nd_of (by decide))).mono ?_
   rw [H2.o]
   rintro e w6 ⟨rfl,hA6⟩
   have HI6:Hid (IB g {flat0 with kind:=4,pos:=t.pos,days:=l} nil nil nil nil w6):=hA6.2.blk HI.o (by omega)
   have HR6:Hid (IB W.heap.size flat0 nil nil nil nil w6):=hA6.2.blk HR.o (by omega)
   have HA6:=hdd (HA.o.trans hA6);clear hA6 HA HI HR
   obtain ⟨w99,hw99,hA99,hl99,ho99⟩:=item_end HR6.o HA6.o hbl {flat0 with kind:=4,pos:=t.pos,days:=l} nil nil nil nil
   have HW99:=hdd hw99;clear hw99
   have HA99:=hdd hA99;clear hA99
   have HL99:=hdd hl99;clear hl99 ho99
   go_wp2_with (first|(refine wpList_load_mid rfl 57 _ rfl g 0 rfl (icells {flat0 with kind:=4,pos:=t.pos,days:=l} nil nil nil nil) _ HI6.o.range Tryd.underlying57 rfl (jx6 _ _ _ _ _) ?_)|(refine wpList_store_mid rfl 57 _ _ rfl W.heap.size 0 (icells {flat0 with kind:=4,pos:=t.pos,days:=l} nil nil nil nil).toArray rfl rfl (HR6.o.there' _ _ _ _ _) (jq6 _ _ _ _ _) (ic1 ..) ?_;rw [HW99.o]))
   exact bodyPost_ret (v:= .agg (icells {flat0 with kind:=4,pos:=t.pos,days:=l} nil nil nil nil).toArray) (jq8 Tryd.results28 rfl HL99.o) rfl ⟨⟨nil,nil,nil,rfl,FlatOK.nil _ _ _ rfl rfl rfl⟩,HA99.o⟩
end Go.Proofs.YtfaflipphkoiiaaDoor.Rp
