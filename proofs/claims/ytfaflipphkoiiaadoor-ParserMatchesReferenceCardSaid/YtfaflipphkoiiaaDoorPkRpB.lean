/-
  What some functions of the reference's parser return (printed by mkrp5.py): tail. What some functions of the reference's parser return (printed by mkrp5.py): names.
-/
import Derived.Test.YtfaflipphkoiiaaDoorParCirc
import Derived.Test.YtfaflipphkoiiaaDoorRpE
set_option maxHeartbeats 64000000
set_option maxRecDepth 100000
set_option linter.unusedVariables false
namespace Go.Proofs.YtfaflipphkoiiaaDoor.Rp
open Go.RowKit Mem Pr
open Lx (Tok isDigit isLetter isSym)
theorem PW.lft {E:Env} {b:Nat} {s:St} {w:World} (h:PW E b s w):lft E b w=s.rest.length:=by
 obtain ⟨n,h1,h2,_,c1,_⟩:=h.cells
 unfold Pr.lft
 rw [c1,h2,List.length_drop]
 rfl
theorem PW.len {E:Env} {b:Nat} {s:St} {w:World} (h:PW E b s w):s.rest.length≤5000:=by
 obtain ⟨n,h1,h2,_⟩:=h.cells
 have:=h.1
 rw [h2,List.length_drop]
 omega
theorem After2.setn {E:Env} {b q:Nat} {s:St} {W W1:World} (h:After2 E b q s W W1) {c i:Nat} (hc:W.heap.size≤c) (hb:b<c) (u:Value):After2 E b q s W (W1.setCell ⟨c,i,none⟩ u):=
 ⟨h.1.set hb u,h.2.setCell (p:=⟨c,i,none⟩) (.inr hc) u⟩
theorem After2.fr {E:Env} {b q:Nat} {s:St} {W W1 W2:World} (h:After2 E b q s W W1) (h2:Fr (fun k=>W.heap.size≤k) W1 W2) (hb:b<W.heap.size):After2 E b q s W W2:=
 ⟨h.1.fr h2 (fun k hk hs=>by omega),h.2.trans' h2 (fun i hi hs=>by omega)⟩
def CRel (E:Env) (b q:Nat) (W:World) (f:Flat) (sd sn si:Value) (R:List Named) (sr:St) (v:Value) (wr:World):Prop:=
 ∃(m:Bool) (l:List Named) (s':St) (sc:Value),v= .bool m∧IB q f sc sd sn si wr∧wr.ownsRow W.heap.size 59 2 sc l.length (l.flatMap cval)∧After2 E b q s' W wr∧l.length+s'.rest.length+boolNat (.bool m)≤5002∧
  (m=true→ ∃n,s'.rest.length<n∧(l++(condsMore n s').1,(condsMore n s').2)=(R,sr))∧(m=false→(l,s')=(R,sr))
theorem tail_yes (E:Env) (b:Nat) (s:St) (W:World) (h:PW E b s W) (q:Nat) (f:Flat) (sd sn si:Value) (hI:IB q f nil sd sn si W) (hq:b<q) (hby:f.by_= []) (htil:f.til= []) (s1:St) (h1:acc [105,102] s=(true,s1)) (R:List Named) (sr:St) (h2:long condsMore s1=(R,sr)):
  Calls Tryd.prog 78 #[.pointer (some ⟨b,0,none⟩),.pointer (some ⟨q,0,none⟩)] W fun e w'=>e= .returned (.tuple #[])∧(∃sc,IB q {f with conds:=R,by_:=(circEnd R sr).1.2.1,til:=(circEnd R sr).1.2.2} sc sd sn si w'∧w'.ownsRow W.heap.size 59 2 sc R.length (R.flatMap cval))∧After2 E b q (circEnd R sr).2 W w':=by
 have HP:=hdd h;clear h
 have HI:=hdd hI;clear hI
 have H1:=hdd h1;clear h1
 have H2:=hdd h2;clear h2
 have HBY:=hdd hby;clear hby
 have HTIL:=hdd htil;clear htil
 have hql:=jq7 HI.o
 obtain ⟨i0,hi,hz0,hz1,hz2⟩:=info_parts info_named
 go_enter Tryd.func78,Tryd.ntmps78
 go_wp2_with fail
 refine (jx8 E b s [105,102] _ HP.o (nd_of (by decide))).mono ?_
 rw [H1.o]
 rintro e w1 ⟨rfl,hA⟩
 have HI1:Hid (IB q f nil sd sn si w1):=hA.2.blk HI.o (by omega)
 have HA:=hdd ((After2.start (q:=q) HP.o).trans hA);clear hA HI
 have hln:=HA.o.1.len
 go_wp2_with fail
 go_loopw [4] (fun v wr=>CRel E b q W f sd sn si R sr v wr) (fun v wr=>2*lft E b wr+boolNat v)
 case atStart=>exact ⟨true,[],s1,nil,rfl,HI1.o,World.ownsRow_nil _ _ _ _,HA.o,by show 0+s1.rest.length+1≤5002;omega,fun _=>⟨_,Nat.lt_succ_self _,H2.o⟩,fun h=>by cases h⟩
 case round=>
  obtain ⟨m,l,s',sc,rfl,hI,hO,hA,hb,hT,hF⟩:=hrel
  have hlf:=hA.1.lft
  obtain ⟨A5,cap5,rfl⟩:=own_form hO
  have HA:=hdd hA;clear hA
  have HI:=hdd hI;clear hI
  have HO:=hdd hO;clear hO
  cases m with
  |true=>
   obtain ⟨n,hn,hX⟩:=hT rfl
   clear hT hF
   obtain ⟨n,rfl⟩: ∃g,n=g+1:=⟨n-1,by omega⟩
   rw [jk8] at hX
   obtain ⟨x,s2,hx⟩: ∃x s2,name s'=(x,s2):=⟨_,_,rfl⟩
   obtain ⟨k,s3,hk⟩: ∃k s3,status s2=(k,s3):=⟨_,_,rfl⟩
   have hnm:named s'=(⟨x,k⟩,s3):=(jq3 hx).trans ((jq3 hk).trans rfl)
   rw [hnm] at hX
   have m1:=Mono.name s'
   have m2:=Mono.anyOf sts 1 s2
   rw [hx] at m1
   have hk2:anyOf sts 1 s2=(k,s3):=hk
   rw [hk2] at m2
   have HX:=hdd hX;have HXN:=hdd hx;have HK:=hdd hk
   have HLF:=hdd hlf
   clear hX hx hk hk2 hnm hlf
   go_wp2_with fail
   refine (name_any E b s' _ HA.o.1).mono ?_
   rw [HXN.o]
   rintro e w2 ⟨rfl,hA2⟩
   have HA2:=hdd (HA.o.trans hA2)
   have HI2:Hid (IB q f (.slice A5 l.length cap5) sd sn si w2):=hA2.2.blk HI.o (by omega)
   have HO2:=hdd (jx5 HO.o hA2.2 (fun k hk _ e=>by have:=HP.o.2.2.1;omega));clear hA2 HA HI HO
   go_wp2_with fail
   refine (outcome_any E b s2 _ (HA2.o.alloc _).1).mono ?_
   rw [HK.o]
   rintro e w3 ⟨rfl,hA3⟩
   have HA3:=hdd ((HA2.o.alloc _).trans hA3)
   have HI3:Hid (IB q f (.slice A5 l.length cap5) sd sn si w3):=hA3.2.blk (jq9 HI2.o _) (by omega)
   have HO3:=hdd (jx5 (jx5 HO2.o ((Fr.refl (fun _=>False) _).alloc _) (fun _ _ _ h=>h)) hA3.2 (fun k hk _ e=>by have:=HP.o.2.2.1;omega))
   have hs2:=HA2.o.2.size
   have hC:w3.heap[w2.heap.size]?=some (.cells #[.string ⟨x.toArray⟩,.int .i64 0] 59 (0,0)):=hA3.2.blk (jq5 (by simp)) (by omega)
   have c0:w3.cell? ⟨w2.heap.size,0,none⟩=some (.string ⟨x.toArray⟩):=jq0 hC 0
   have c1:w3.cell? ⟨w2.heap.size,1,none⟩=some (.int .i64 0):=jq0 hC 1
   have f1:w3.frozen? ⟨w2.heap.size,1,none⟩=false:=jq1 hC 1
   have HC:=hdd hC
   clear hA3 HA2 HI2 hC
   go_wp2_with fail
   have hbW:=HP.o.2.2.1
   have HRW:Hid (∀g,(Value.slice A5 l.length cap5).ownBlock=some g→W.heap.size≤g∧g<w2.heap.size):=fun g hg=>own_lt HO2.o g hg
   have hC4:=jx4 HC.o 1 (.int .i64 (k:Int))
   have hI4:IB q f (.slice A5 l.length cap5) sd sn si (w3.setCell ⟨w2.heap.size,1,none⟩ (.int .i64 (k:Int))):=jq2 HI3.o (by omega) _
   have hA4:=HA3.o.setn (i:=1) hs2 (by omega) (.int .i64 (k:Int))
   have hO4:=jv0 (i:=1) HO3.o (c:=w2.heap.size) (fun g hg=>by have:=(HRW.o g hg).2;omega) (.int .i64 (k:Int))
   generalize w3.setCell ⟨w2.heap.size,1,none⟩ (.int .i64 (k:Int))=W4 at*
   clear c0 c1 f1
   have c0:W4.cell? ⟨w2.heap.size,0,none⟩=some (.string ⟨x.toArray⟩):=jq0 hC4 0
   have c1:W4.cell? ⟨w2.heap.size,1,none⟩=some (.int .i64 (k:Int)):=jq0 hC4 1
   have k13:W4.cell? ⟨q,13,none⟩=some (.slice A5 l.length cap5):=jq0 hI4 13
   have k13a: ∀o,(W4.alloc o).cell? ⟨q,13,none⟩=some (.slice A5 l.length cap5):=fun o=>jq0 (jq9 hI4 o) 13
   have hc4:=jq7 hC4
   have HC4:=hdd hC4;have HI4:=hdd hI4;have HA4:=hdd hA4;have HO4:=hdd hO4
   clear hC4 hI4 hA4 hO4 HC HI3 HA3 HO3 HO2
   have HG:Hid (∀ob w5,((W4.drew).alloc ob).grownBy w5 (Value.slice A5 l.length cap5).ownBlock→w5.heap[q]?=W4.heap[q]?∧w5.heap[w2.heap.size]?=W4.heap[w2.heap.size]?∧Fr (fun k=>W.heap.size≤k) W4 w5):=by
    intro ob w5 hg
    have hk: ∀k,k<W4.heap.size→(∀g,(Value.slice A5 l.length cap5).ownBlock=some g→k≠g)→w5.heap[k]?=W4.heap[k]?:=by
     intro k hk hne
     rw [hg.block k (by simp only [World.size_alloc];show k<W4.heap.size+1;omega) (fun e=>hne k e.symm rfl)]
     exact Below.heap_alloc W4.drew ob k hk
    exact ⟨hk q (by omega) (fun g hg e=>by have:=(HRW.o g hg).1;omega),hk _ hc4 (fun g hg e=>by have:=(HRW.o g hg).2;omega),
     (((Fr.refl _ _).drew).alloc ob).grown hg (fun k hk=> .inl (HRW.o k hk).1)⟩
   have HK:Hid (∀w5:World,w5.heap[q]?=W4.heap[q]?→w5.cell? ⟨q,13,none⟩=some (.slice A5 l.length cap5)∧w5.frozen? ⟨q,13,none⟩=false):=fun w5 h=>⟨jq0 (h.trans HI4.o) 13,jq1 (h.trans HI4.o) 13⟩
   have HCC:Hid (∀w5:World,w5.heap[w2.heap.size]?=W4.heap[w2.heap.size]?→w5.cell? ⟨w2.heap.size,0,none⟩=some (.string ⟨x.toArray⟩)∧w5.cell? ⟨w2.heap.size,1,none⟩=some (.int .i64 (k:Int))):=fun w5 h=>⟨jq0 (h.trans HC4.o) 0,jq0 (h.trans HC4.o) 1⟩
   have ca0: ∀o,(W4.alloc o).cell? ⟨w2.heap.size,0,none⟩=some (.string ⟨x.toArray⟩):=fun o=>jq0 (jq9 HC4.o o) 0
   have ca1: ∀o,(W4.alloc o).cell? ⟨w2.heap.size,1,none⟩=some (.int .i64 (k:Int)):=fun o=>jq0 (jq9 HC4.o o) 1
   have hW4:=HA4.o.2.size
   go_region_law
    ((refine step_append_lies _ rfl (.tmp 21) (.tmp 23) 50 rfl W.heap.size 59 i0 _ 2 24 Tryd.underlying50 hi hz0 hz1 hz2 rfl (by decide) (.slice A5 l.length cap5) l.length _ (by rfl) ((HO4.o.alloc _).drew) ⟨W4.heap.size,0,none⟩ 1 1 [.string ⟨x.toArray⟩,.int .i64 (k:Int)] (by rfl) (by rfl) (World.news_of_block (cs:= #[.string ⟨x.toArray⟩,.int .i64 (k:Int)]) (t:=59) (fr:=(0,0)) (heap_alloc_new W4 _)) (by simp [Value.oneCell']) (by decide) (by have hb':l.length+s'.rest.length+1≤5002:=hb;simp only [maxLen];omega) (by have hb':l.length+s'.rest.length+1≤5002:=hb;omega) (by show W.heap.size≤(W4.heap.push _).size;rw [Array.size_push];omega) (W4.heap.size+1) (by show (W4.heap.push _).size=_;rw [Array.size_push]) ?_;intro gg cap1 w5 hown5 hgrow hat hlt5;have hg5:=HG.o _ _ hgrow;have d0:=(HCC.o w5 hg5.2.1).1;have d1:=(HCC.o w5 hg5.2.1).2;have e0:=(HK.o w5 hg5.1).1;have e1:=(HK.o w5 hg5.1).2;have HG5:=hdd hg5;have HO5:=hdd hown5;clear hg5 hown5 hgrow hat))
   all_goals
    have HI6:=hdd (IB.set_sc (HG5.o.1.trans HI4.o) (.slice (some ⟨gg,0,none⟩) (l.length+1) cap1))
    have HA6:=hdd ((HA4.o.fr HG5.o.2.2 hbW).set (i:=13) hq (.slice (some ⟨gg,0,none⟩) (l.length+1) cap1))
    have HGG:Hid (W.heap.size≤gg):=(own_lt HO5.o gg rfl).1
    have HO6:=hdd (jv0 (c:=q) (i:=13) HO5.o (fun g hg=>by have:=(own_lt HO5.o g hg).1;omega) (.slice (some ⟨gg,0,none⟩) (l.length+1) cap1))
    clear HI4 HA4 HO4 HO5 HG HK HCC HC4 HG5 d0 d1 e0 e1 k13 k13a c0 c1 ca0 ca1
    cases ha:(acc [97,110,100] s3).1 with
    |true=>
     obtain ⟨hl1,_⟩:=jk3 ha
     have hX3:(l++(⟨x,k⟩:Named)::(condsMore n (acc [97,110,100] s3).2).1,(condsMore n (acc [97,110,100] s3).2).2)=(R,sr):=by have:=HX.o;rw [if_pos ha] at this;exact this
     have HX3:=hdd hX3
     have HAA:=hdd ha
     clear hX3 ha
     go_wp2_with fail
     refine (jx8 E b s3 [97,110,100] _ HA6.o.1 (nd_of (by decide))).mono ?_
     rw [HAA.o]
     rintro e w7 ⟨rfl,hA7⟩
     have HA7:=hdd (HA6.o.trans hA7)
     have hlf7:=HA7.o.1.lft
     have HN:Hid (CRel E b q W f sd sn si R sr (.bool true) w7):=by
      refine ⟨true,l++ [⟨x,k⟩],_,_,rfl,hA7.2.blk HI6.o (by omega),?_,HA7.o,?_,fun _=>⟨n,by omega,by rw [←HX3.o];simp⟩,fun h=>by cases h⟩
      ·rw [List.length_append,List.flatMap_append]
       exact jx5 HO6.o hA7.2 (fun k hk _ e=>by omega)
      ·have hb':l.length+s'.rest.length+1≤5002:=hb
       simp only [List.length_append,List.length_cons,List.length_nil];show _+1≤5002;omega
     have HM:Hid (2*lft E b w7+boolNat (.bool true)<2*lft E b wr+boolNat (.bool true)):=by show _<_;rw [hlf7,HLF.o];omega
     clear hA7 hlf7 HI6 HO6 HA6
     go_wp2_with fail
     go_roundw
     case rel=>exact HN.o
     case measure=>exact HM.o
    |false=>
     have hX3:(l++ [(⟨x,k⟩:Named)],(acc [97,110,100] s3).2)=(R,sr):=by have:=HX.o;rw [if_neg (by rw [ha];simp)] at this;exact this
     have hm3:=Mono.acc [97,110,100] s3
     have HX3:=hdd hX3
     have HAA:=hdd ha
     clear hX3 ha
     go_wp2_with fail
     refine (jx8 E b s3 [97,110,100] _ HA6.o.1 (nd_of (by decide))).mono ?_
     rw [HAA.o]
     rintro e w7 ⟨rfl,hA7⟩
     have HA7:=hdd (HA6.o.trans hA7)
     have hlf7:=HA7.o.1.lft
     have HN:Hid (CRel E b q W f sd sn si R sr (.bool false) w7):=by
      refine ⟨false,l++ [⟨x,k⟩],_,_,rfl,hA7.2.blk HI6.o (by omega),?_,HA7.o,?_,(fun h=>by cases h),fun _=>HX3.o⟩
      ·rw [List.length_append,List.flatMap_append]
       exact jx5 HO6.o hA7.2 (fun k hk _ e=>by omega)
      ·have hb':l.length+s'.rest.length+1≤5002:=hb
       simp only [List.length_append,List.length_cons,List.length_nil];show _+0≤5002;omega
     have HM:Hid (2*lft E b w7+boolNat (.bool false)<2*lft E b wr+boolNat (.bool true)):=by show _<_;rw [hlf7,HLF.o];show 2*_+0<2*_+1;omega
     clear hA7 hlf7 HI6 HO6 HA6
     go_wp2_with fail
     go_roundw
     case rel=>exact HN.o
     case measure=>exact HM.o
  |false=>
   have e:=hF rfl
   injection e with e1 e2
   subst e1 e2
   clear hT hF hlf
   have hbW:=HP.o.2.2.1
   obtain ⟨pz,s3,hpz⟩: ∃x z,acc [112,97,117,115,101,100] s'=(x,z):=⟨_,_,rfl⟩
   cases pz with
   |true=>
    obtain ⟨u4,s4,h4⟩: ∃x s',expect [[98,121]] s3=(x,s'):=⟨_,_,rfl⟩
    obtain ⟨x,s5,h5⟩: ∃x s',name s4=(x,s'):=⟨_,_,rfl⟩
    obtain ⟨u6,s6,h6⟩: ∃x s',expect [[117,110,116,105,108]] s5=(x,s'):=⟨_,_,rfl⟩
    obtain ⟨y,s7,h7⟩: ∃x s',name s6=(x,s'):=⟨_,_,rfl⟩
    have hp:circEnd l s'=((l,x,y),s7):=(jz1 hpz).trans ((jx1 h4).trans ((jq3 h5).trans ((jx1 h6).trans ((jq3 h7).trans rfl))))
    have HPP:=hdd hp
    have HPZ:=hdd hpz;have H4:=hdd h4;have H5:=hdd h5;have H6:=hdd h6;have H7:=hdd h7
    clear hpz h4 h5 h6 h7 hp
    go_wp2_with fail
    refine (jx8 E b s' [112,97,117,115,101,100] _ HA.o.1 (nd_of (by decide))).mono ?_
    rw [HPZ.o]
    rintro e v1 ⟨rfl,hv⟩
    have VI1:Hid (IB q f _ sd sn si v1):=hv.2.blk HI.o (by omega)
    have VO1:=hdd (jx5 HO.o hv.2 (fun k hk _ e=>by omega))
    have VA1:=hdd (HA.o.trans hv);clear hv
    go_wp2_with fail
    refine (jx3 E b s3 [98,121] _ VA1.o.1 (nd_of (by decide))).mono ?_
    rw [H4.o]
    rintro e v2 ⟨rfl,hv⟩
    have VI2:Hid (IB q f _ sd sn si v2):=hv.2.blk VI1.o (by omega)
    have VO2:=hdd (jx5 VO1.o hv.2 (fun k hk _ e=>by omega))
    have VA2:=hdd (VA1.o.trans hv);clear hv
    go_wp2_with fail
    refine (name_any E b s4 _ VA2.o.1).mono ?_
    rw [H5.o]
    rintro e v3 ⟨rfl,hv⟩
    have VI3:Hid (IB q f _ sd sn si v3):=hv.2.blk VI2.o (by omega)
    have VO3:=hdd (jx5 VO2.o hv.2 (fun k hk _ e=>by omega))
    have VA3:=hdd (VA2.o.trans hv);clear hv
    have k14:v3.cell? ⟨q,14,none⟩=some (.string ⟨f.by_.toArray⟩):=jq0 VI3.o 14
    have z14:v3.frozen? ⟨q,14,none⟩=false:=jq1 VI3.o 14
    go_wp2_with fail
    refine (jx3 E b s5 [117,110,116,105,108] _ (VA3.o.set (i:=14) hq (.string ⟨x.toArray⟩)).1 (nd_of (by decide))).mono ?_
    rw [H6.o]
    rintro e v4 ⟨rfl,hv⟩
    have VI4:Hid (IB q {f with by_:=x} _ sd sn si v4):=hv.2.blk (IB.set_by_ VI3.o x) (by omega)
    have VO4:=hdd (jx5 (jv0 (c:=q) (i:=14) VO3.o (fun g hg=>by have:=(own_lt VO3.o g hg).1;omega) (.string ⟨x.toArray⟩)) hv.2 (fun k hk _ e=>by omega))
    have VA4:=hdd ((VA3.o.set (i:=14) hq (.string ⟨x.toArray⟩)).trans hv);clear hv
    clear k14 z14
    go_wp2_with fail
    refine (name_any E b s6 _ VA4.o.1).mono ?_
    rw [H7.o]
    rintro e v5 ⟨rfl,hv⟩
    have VI5:Hid (IB q {f with by_:=x} _ sd sn si v5):=hv.2.blk VI4.o (by omega)
    have VO5:=hdd (jx5 VO4.o hv.2 (fun k hk _ e=>by omega))
    have VA5:=hdd (VA4.o.trans hv);clear hv
    have k15:v5.cell? ⟨q,15,none⟩=some (.string ⟨f.til.toArray⟩):=jq0 VI5.o 15
    have z15:v5.frozen? ⟨q,15,none⟩=false:=jq1 VI5.o 15
    go_wp2_with fail
    go_end0
    rw [HPP.o]
    exact ⟨rfl,⟨_,IB.set_til VI5.o y,jv0 (c:=q) (i:=15) VO5.o (fun g hg=>by have:=(own_lt VO5.o g hg).1;omega) (.string ⟨y.toArray⟩)⟩,VA5.o.set (i:=15) hq (.string ⟨y.toArray⟩)⟩
   |false=>
    have hp:circEnd l s'=((l,[],[]),s3):=(jx9 hpz).trans rfl
    have HPP:=hdd hp
    have HPZ:=hdd hpz
    clear hpz hp
    go_wp2_with fail
    refine (jx8 E b s' [112,97,117,115,101,100] _ HA.o.1 (nd_of (by decide))).mono ?_
    rw [HPZ.o]
    rintro e v1 ⟨rfl,hv⟩
    have VI1:Hid (IB q f _ sd sn si v1):=hv.2.blk HI.o (by omega)
    have VO1:=hdd (jx5 HO.o hv.2 (fun k hk _ e=>by omega))
    have VA1:=hdd (HA.o.trans hv);clear hv
    go_wp2_with fail
    go_end0
    rw [HPP.o]
    exact ⟨rfl,⟨_,IB.empty VI1.o HBY.o HTIL.o _,VO1.o⟩,VA1.o⟩
theorem tail_no (E:Env) (b:Nat) (s:St) (W:World) (h:PW E b s W) (q:Nat) (f:Flat) (sd sn si:Value) (hI:IB q f nil sd sn si W) (hq:b<q) (hby:f.by_= []) (htil:f.til= []) (s1:St) (h1:acc [105,102] s=(false,s1)):
  Calls Tryd.prog 78 #[.pointer (some ⟨b,0,none⟩),.pointer (some ⟨q,0,none⟩)] W fun e w'=>e= .returned (.tuple #[])∧(∃sc,IB q {f with conds:= [],by_:=(circEnd [] s1).1.2.1,til:=(circEnd [] s1).1.2.2} sc sd sn si w'∧w'.ownsRow W.heap.size 59 2 sc ([]:List Named).length (([]:List Named).flatMap cval))∧After2 E b q (circEnd [] s1).2 W w':=by
 have HP:=hdd h;clear h
 have HI0:=hdd hI;clear hI
 have H1:=hdd h1;clear h1
 have HBY:=hdd hby;clear hby
 have HTIL:=hdd htil;clear htil
 have hql:=jq7 HI0.o
 go_enter Tryd.func78,Tryd.ntmps78
 go_wp2_with fail
 refine (jx8 E b s [105,102] _ HP.o (nd_of (by decide))).mono ?_
 rw [H1.o]
 rintro e w1 ⟨rfl,hA⟩
 have HI:Hid (IB q f nil sd sn si w1):=hA.2.blk HI0.o (by omega)
 have HA:=hdd ((After2.start (q:=q) HP.o).trans hA);clear hA HI0
 have HO:Hid (w1.ownsRow W.heap.size 59 2 nil ([]:List Named).length (([]:List Named).flatMap cval)):=World.ownsRow_nil _ _ _ _
 have hbW:=HP.o.2.2.1
 obtain ⟨pz,s3,hpz⟩: ∃x s',acc [112,97,117,115,101,100] s1=(x,s'):=⟨_,_,rfl⟩
 cases pz with
 |true=>
  obtain ⟨u4,s4,h4⟩: ∃x s',expect [[98,121]] s3=(x,s'):=⟨_,_,rfl⟩
  obtain ⟨x,s5,h5⟩: ∃x s',name s4=(x,s'):=⟨_,_,rfl⟩
  obtain ⟨u6,s6,h6⟩: ∃x s',expect [[117,110,116,105,108]] s5=(x,s'):=⟨_,_,rfl⟩
  obtain ⟨y,s7,h7⟩: ∃x s',name s6=(x,s'):=⟨_,_,rfl⟩
  have hp:circEnd [] s1=(([],x,y),s7):=(jz1 hpz).trans ((jx1 h4).trans ((jq3 h5).trans ((jx1 h6).trans ((jq3 h7).trans rfl))))
  have HPP:=hdd hp
  have HPZ:=hdd hpz;have H4:=hdd h4;have H5:=hdd h5;have H6:=hdd h6;have H7:=hdd h7
  clear hpz h4 h5 h6 h7 hp
  go_wp2_with fail
  refine (jx8 E b s1 [112,97,117,115,101,100] _ HA.o.1 (nd_of (by decide))).mono ?_
  rw [HPZ.o]
  rintro e v1 ⟨rfl,hv⟩
  have VI1:Hid (IB q f _ sd sn si v1):=hv.2.blk HI.o (by omega)
  have VO1:=hdd (jx5 HO.o hv.2 (fun k hk _ e=>by omega))
  have VA1:=hdd (HA.o.trans hv);clear hv
  go_wp2_with fail
  refine (jx3 E b s3 [98,121] _ VA1.o.1 (nd_of (by decide))).mono ?_
  rw [H4.o]
  rintro e v2 ⟨rfl,hv⟩
  have VI2:Hid (IB q f _ sd sn si v2):=hv.2.blk VI1.o (by omega)
  have VO2:=hdd (jx5 VO1.o hv.2 (fun k hk _ e=>by omega))
  have VA2:=hdd (VA1.o.trans hv);clear hv
  go_wp2_with fail
  refine (name_any E b s4 _ VA2.o.1).mono ?_
  rw [H5.o]
  rintro e v3 ⟨rfl,hv⟩
  have VI3:Hid (IB q f _ sd sn si v3):=hv.2.blk VI2.o (by omega)
  have VO3:=hdd (jx5 VO2.o hv.2 (fun k hk _ e=>by omega))
  have VA3:=hdd (VA2.o.trans hv);clear hv
  have k14:v3.cell? ⟨q,14,none⟩=some (.string ⟨f.by_.toArray⟩):=jq0 VI3.o 14
  have z14:v3.frozen? ⟨q,14,none⟩=false:=jq1 VI3.o 14
  go_wp2_with fail
  refine (jx3 E b s5 [117,110,116,105,108] _ (VA3.o.set (i:=14) hq (.string ⟨x.toArray⟩)).1 (nd_of (by decide))).mono ?_
  rw [H6.o]
  rintro e v4 ⟨rfl,hv⟩
  have VI4:Hid (IB q {f with by_:=x} _ sd sn si v4):=hv.2.blk (IB.set_by_ VI3.o x) (by omega)
  have VO4:=hdd (jx5 (jv0 (c:=q) (i:=14) VO3.o (fun g hg=>by have:=(own_lt VO3.o g hg).1;omega) (.string ⟨x.toArray⟩)) hv.2 (fun k hk _ e=>by omega))
  have VA4:=hdd ((VA3.o.set (i:=14) hq (.string ⟨x.toArray⟩)).trans hv);clear hv
  clear k14 z14
  go_wp2_with fail
  refine (name_any E b s6 _ VA4.o.1).mono ?_
  rw [H7.o]
  rintro e v5 ⟨rfl,hv⟩
  have VI5:Hid (IB q {f with by_:=x} _ sd sn si v5):=hv.2.blk VI4.o (by omega)
  have VO5:=hdd (jx5 VO4.o hv.2 (fun k hk _ e=>by omega))
  have VA5:=hdd (VA4.o.trans hv);clear hv
  have k15:v5.cell? ⟨q,15,none⟩=some (.string ⟨f.til.toArray⟩):=jq0 VI5.o 15
  have z15:v5.frozen? ⟨q,15,none⟩=false:=jq1 VI5.o 15
  go_wp2_with fail
  go_end0
  rw [HPP.o]
  exact ⟨rfl,⟨_,IB.set_til VI5.o y,jv0 (c:=q) (i:=15) VO5.o (fun g hg=>by have:=(own_lt VO5.o g hg).1;omega) (.string ⟨y.toArray⟩)⟩,VA5.o.set (i:=15) hq (.string ⟨y.toArray⟩)⟩
 |false=>
  have hp:circEnd [] s1=(([],[],[]),s3):=(jx9 hpz).trans rfl
  have HPP:=hdd hp
  have HPZ:=hdd hpz
  clear hpz hp
  go_wp2_with fail
  refine (jx8 E b s1 [112,97,117,115,101,100] _ HA.o.1 (nd_of (by decide))).mono ?_
  rw [HPZ.o]
  rintro e v1 ⟨rfl,hv⟩
  have VI1:Hid (IB q f _ sd sn si v1):=hv.2.blk HI.o (by omega)
  have VO1:=hdd (jx5 HO.o hv.2 (fun k hk _ e=>by omega))
  have VA1:=hdd (HA.o.trans hv);clear hv
  go_wp2_with fail
  go_end0
  rw [HPP.o]
  exact ⟨rfl,⟨_,IB.empty VI1.o HBY.o HTIL.o _,VO1.o⟩,VA1.o⟩
theorem kz2 (E:Env) (b:Nat) (s:St) (W:World) (h:PW E b s W) (q:Nat) (f:Flat) (sd sn si:Value) (hI:IB q f nil sd sn si W) (hq:b<q) (hby:f.by_= []) (htil:f.til= []):
  Calls Tryd.prog 78 #[.pointer (some ⟨b,0,none⟩),.pointer (some ⟨q,0,none⟩)] W fun e w'=>e= .returned (.tuple #[])∧(∃sc,IB q {f with conds:=(circ s).1.1,by_:=(circ s).1.2.1,til:=(circ s).1.2.2} sc sd sn si w'∧w'.ownsRow W.heap.size 59 2 sc (circ s).1.1.length ((circ s).1.1.flatMap cval))∧After2 E b q (circ s).2 W w':=by
 have hend: ∀R s',(circEnd R s').1.1=R:=by
  intro R s'
  unfold circEnd bnd
  dsimp only
  cases (acc [112,97,117,115,101,100] s').1<;>rfl
 obtain ⟨b1,s1,h1⟩: ∃x s',acc [105,102] s=(x,s'):=⟨_,_,rfl⟩
 cases b1 with
 |true=>
  obtain ⟨R,sr,h2⟩: ∃R sr,long condsMore s1=(R,sr):=⟨_,_,rfl⟩
  have hp:circ s=circEnd R sr:=(jz1 h1).trans (jq3 h2)
  rw [hp,hend]
  exact tail_yes E b s W h q f sd sn si hI hq hby htil s1 h1 R sr h2
 |false=>
  have hp:circ s=circEnd [] s1:=jx9 h1
  rw [hp,hend]
  exact tail_no E b s W h q f sd sn si hI hq hby htil s1 h1
end Go.Proofs.YtfaflipphkoiiaaDoor.Rp
namespace Go.Proofs.YtfaflipphkoiiaaDoor.Rp
open Go.RowKit Mem Pr
open Lx (Tok isDigit isLetter isSym)
theorem After.grown {E:Env} {b:Nat} {s:St} {W W1 w4:World} {v:Value} {o:Obj} (h:After E b s W W1) (hg:(W1.alloc o).grownBy w4 v.ownBlock) (hv: ∀g,v.ownBlock=some g→W.heap.size≤g) (hb:b<W.heap.size):After E b s W w4:=by
 have h2:Fr (fun k=>W.heap.size≤k) W1 w4:=((Fr.refl _ _).alloc o).grown hg (fun k hk=> .inl (hv k hk))
 exact ⟨h.1.fr h2 (fun k hk hs=>by omega),h.2.trans' h2 (fun i hi hs=>by omega)⟩
def NRel (E:Env) (b:Nat) (W:World) (R:List Bytes) (sr:St) (v:Value) (wr:World):Prop:=
 ∃(l:List Bytes) (s':St) (f:Nat),After E b s' W wr∧wr.ownsRow W.heap.size 9 1 v l.length (l.map sv)∧s'.rest.length<f∧l.length+s'.rest.length≤5001∧(l++(namesMore f s').1,(namesMore f s').2)=(R,sr)
theorem own_one {w:World} {base k:Nat} {x:Bytes} (h:w.heap[k]?=some (.cells #[.string ⟨x.toArray⟩] 9 (0,0))) (hb:base≤k):w.ownsRow base 9 1 (.slice (some ⟨k,0,none⟩) 1 1) 1 [sv x]:=
 ⟨rfl,.inr ⟨k,1,#[.string ⟨x.toArray⟩],rfl,hb,h,Nat.le_refl _,by decide,rfl,rfl⟩⟩
theorem names_any (E:Env) (b:Nat) (s:St) (W:World) (h:PW E b s W):
  Calls Tryd.prog 52 #[.pointer (some ⟨b,0,none⟩)] W fun e w'=>(∃sn,e= .returned sn∧w'.ownsRow W.heap.size 9 1 sn (rnames s).1.length ((rnames s).1.map sv))∧After E b (rnames s).2 W w':=by
 have hbl:=h.2.2.1
 obtain ⟨i0,hi,hz0,hz1,hz2⟩:=info_parts info_str
 obtain ⟨u1,s1,h1⟩: ∃x s',expect [[40]] s=(x,s'):=⟨_,_,rfl⟩
 have HP:=hdd h;clear h
 rcases jv9 [41] s1 with ⟨s2,h2⟩|h2
 ·have hp:rnames s=([],s2):=(jx1 h1).trans ((jz1 h2).trans rfl)
  rw [hp]
  have H1:=hdd h1;have H2:=hdd h2
  clear h1 h2 hp
  go_enter Tryd.func52,Tryd.ntmps52
  go_wp2_with fail
  refine (jx3 E b s [40] _ HP.o (nd_of (by decide))).mono ?_
  rw [H1.o]
  rintro e w1 ⟨rfl,hA⟩
  have HA:=hdd hA;clear hA
  go_wp2_with fail
  refine (jx8 E b s1 [41] _ HA.o.1 (nd_of (by decide))).mono ?_
  rw [H2.o]
  rintro e w2 ⟨rfl,hA⟩
  have HA2:=hdd (HA.o.trans hA);clear hA
  go_wp2_with fail
  go_ret
  exact ⟨⟨_,rfl,World.ownsRow_nil _ _ _ _⟩,HA2.o⟩
 ·obtain ⟨x0,s2,hx⟩: ∃x s',name s1=(x,s'):=⟨_,_,rfl⟩
  obtain ⟨R,sr,h3⟩: ∃R sr,long namesMore s2=(R,sr):=⟨_,_,rfl⟩
  obtain ⟨u4,s4,h4⟩: ∃x s',expect [[41]] sr=(x,s'):=⟨_,_,rfl⟩
  have hp:rnames s=(x0::R,s4):=(jx1 h1).trans ((jx9 h2).trans ((jq3 hx).trans ((jq3 h3).trans ((jx1 h4).trans rfl))))
  rw [hp]
  have H1:=hdd h1;have H2:=hdd h2;have H3:=hdd h3;have H4:=hdd h4;have HX0:=hdd hx
  clear h1 h2 h3 h4 hp hx
  go_enter Tryd.func52,Tryd.ntmps52
  go_wp2_with fail
  refine (jx3 E b s [40] _ HP.o (nd_of (by decide))).mono ?_
  rw [H1.o]
  rintro e w1 ⟨rfl,hA⟩
  have HA:=hdd hA;clear hA
  go_wp2_with fail
  refine (jx8 E b s1 [41] _ HA.o.1 (nd_of (by decide))).mono ?_
  rw [H2.o]
  rintro e w2 ⟨rfl,hA⟩
  have HA2:=hdd (HA.o.trans hA);clear hA HA
  go_wp2_with fail
  refine (name_any E b s1 _ HA2.o.1).mono ?_
  rw [HX0.o]
  rintro e w3 ⟨rfl,hA⟩
  have HA3:=hdd (HA2.o.trans hA);clear hA HA2
  have hz3:=HA3.o.2.size
  obtain ⟨w4,hw4⟩: ∃u,w3.alloc (.cells #[.string ⟨x0.toArray⟩] 9)=u:=⟨_,rfl⟩
  have HO4:Hid (w4.ownsRow W.heap.size 9 1 (.slice (some ⟨w3.heap.size,0,none⟩) 1 1) 1 [sv x0]):=by rw [←hw4];exact own_one (jq5 rfl) hz3
  have HA4:Hid (After E b s2 W w4):=by rw [←hw4];exact HA3.o.alloc _
  have HW4:=hdd hw4
  clear HA3 hw4
  have hln:=HA4.o.1.len
  go_upto_region 5 with fail
  rw [HW4.o]
  go_loopw [3] (fun v wr=>NRel E b W (x0::R) sr v wr) (fun _ wr=>lft E b wr)
  case atStart=>exact ⟨[x0],s2,s2.rest.length+1,HA4.o,HO4.o,by omega,by simp;omega,by have:=H3.o;unfold long at this;rw [this];rfl⟩
  case round=>
   obtain ⟨l,s',f,hA,hO,hf,hb,hX⟩:=hrel
   obtain ⟨A5,cap5,rfl⟩:=own_form hO
   obtain ⟨f,rfl⟩: ∃g,f=g+1:=⟨f-1,by omega⟩
   have hlf:=hA.1.lft
   have HA:=hdd hA;clear hA
   have HO:=hdd hO;clear hO
   rw [jk6] at hX
   cases ha:(acc [44] s').1 with
   |true=>
    obtain ⟨hl1,_⟩:=jk3 ha
    have hl2:=Mono.name (acc [44] s').2
    have hX3:(l++(name (acc [44] s').2).1::(namesMore f (name (acc [44] s').2).2).1,(namesMore f (name (acc [44] s').2).2).2)=(x0::R,sr):=by rw [ha] at hX;exact hX
    have HX:=hdd hX3
    have HAA:=hdd ha
    clear hX hX3 ha
    have HLF:=hdd hlf;clear hlf
    go_wp2_with fail
    refine (jx8 E b s' [44] _ HA.o.1 (nd_of (by decide))).mono ?_
    rw [HAA.o]
    rintro e w5 ⟨rfl,hA5⟩
    have HA5:=hdd (HA.o.trans hA5)
    have HO5:=hdd (jx5 HO.o hA5.2 (fun k hk _ e=>by omega));clear hA5
    go_wp2_with fail
    refine (name_any E b _ _ HA5.o.1).mono ?_
    generalize hnm:name (acc [44] s').2=nm at*
    obtain ⟨x,s6⟩:=nm
    have HNM:=hdd hnm;clear hnm
    rintro e w6 ⟨rfl,hA6⟩
    have HA6:=hdd (HA5.o.trans hA6)
    have HO6:=hdd (jx5 HO5.o hA6.2 (fun k hk _ e=>by omega));clear hA6 HA5 HO5
    have hz6:=HA6.o.2.size
    go_wp2_with (at_builtin;refine wpList_append_own_at _ rfl _ _ 55 rfl W.heap.size 9 i0 _ 1 16 Tryd.underlying55 hi hz0 hz1 hz2 rfl (by decide) _ _ _ rfl (jx5 HO6.o ((Fr.refl (fun _=>False) _).alloc _) (fun _ _ _ h=>h)) ⟨w6.heap.size,0,none⟩ 1 1 [.string ⟨x.toArray⟩] rfl rfl ?d1 ?d2 ?d3 ?d4 ?d5 ?_)
    case d1=>exact one_new _ _ _ _ rfl
    case d2=>intro u hu;simp at hu;subst hu;rfl
    case d3=>simp only [maxLen];omega
    case d4=>omega
    case d5=>simp only [World.size_alloc];omega
    intro v7 w7 hown7 hg7 hnil7 hat7
    have HA7:=hdd (HA6.o.grown hg7 (fun g hg=>(own_lt HO6.o g hg).1) hbl)
    have hlf7:=HA7.o.1.lft
    have HN:Hid (NRel E b W (x0::R) sr v7 w7):=by
     refine ⟨l++ [x],s6,f,HA7.o,?_,by omega,by simp only [List.length_append,List.length_cons,List.length_nil];omega,by rw [←HX.o];simp⟩
     rw [List.length_append,List.map_append];exact hown7
    have HM:Hid (lft E b w7<lft E b wr):=by show _<_;rw [hlf7,HLF.o];omega
    clear hown7 hg7 hnil7 hat7 hlf7
    go_wp2_with fail
    go_roundw
    case rel=>exact HN.o
    case measure=>exact HM.o
   |false=>
    have hX3:(l,(acc [44] s').2)=(x0::R,sr):=by rw [ha] at hX;simpa using hX
    injection hX3 with hX4 hX5
    have HX4:=hdd hX4;have HX5:=hdd hX5
    have HAA:=hdd ha
    clear hX hX4 hX5 ha hlf
    go_wp2_with fail
    refine (jx8 E b s' [44] _ HA.o.1 (nd_of (by decide))).mono ?_
    rw [HAA.o,HX5.o]
    rintro e w5 ⟨rfl,hA5⟩
    have HA5:=hdd (HA.o.trans hA5)
    have HO5:=hdd (jx5 HO.o hA5.2 (fun k hk _ e=>by omega));clear hA5
    go_wp2_with fail
    refine (jx3 E b sr [41] _ HA5.o.1 (nd_of (by decide))).mono ?_
    rw [H4.o]
    rintro e w6 ⟨rfl,hA6⟩
    have HA6:=hdd (HA5.o.trans hA6)
    have HO6:=hdd (jx5 HO5.o hA6.2 (fun k hk _ e=>by omega));clear hA6
    go_wp2_with fail
    go_ret
    have e:=HX4.o
    subst e
    exact ⟨⟨_,rfl,HO6.o⟩,HA6.o⟩
end Go.Proofs.YtfaflipphkoiiaaDoor.Rp
