/-
  What the parser's method circumstances does to an item.
-/
import Derived.Test.YtfaflipphkoiiaaDoorPkParB
import Derived.Deep.AppendLies
import Derived.Deep.RegionLaw
set_option maxHeartbeats 64000000
set_option maxRecDepth 100000
set_option linter.unusedVariables false
namespace Go.Proofs.YtfaflipphkoiiaaDoor.Pr
open Go.RowKit Mem
open Lx (Tok)
theorem info_named:(Tryd.prog.info? 59).map (fun i=>(i.zero,i.size,i.bytes))=some (some (.agg #[.string ⟨#[]⟩,.int .i64 0]),2,24):=by kernel_rfl
theorem After2.setn {E:Env} {b q:Nat} {s:St} {W W1:World} (h:After2 E b q s W W1) {c i:Nat} (hc:W.heap.size≤c) (hb:b<c) (u:Value):After2 E b q s W (W1.setCell ⟨c,i,none⟩ u):=
 ⟨h.1.set hb u,h.2.setCell (p:=⟨c,i,none⟩) (.inr hc) u⟩
theorem After2.fr {E:Env} {b q:Nat} {s:St} {W W1 W2:World} (h:After2 E b q s W W1) (h2:Fr (fun k=>W.heap.size≤k) W1 W2) (hb:b<W.heap.size):After2 E b q s W W2:=
 ⟨h.1.fr h2 (fun k hk hs=>by omega),h.2.trans' h2 (fun i hi hs=>by omega)⟩
theorem jv0 {w:World} {base:Nat} {e:TypeId} {size:Nat} {v:Value} {n:Nat} {xs:List Value} (h:w.ownsRow base e size v n xs) {c i:Nat} (hc: ∀g,v.ownBlock=some g→g≠c) (u:Value):(w.setCell ⟨c,i,none⟩ u).ownsRow base e size v n xs:=by
 refine ⟨h.1,?_⟩
 rcases h.2 with h2|⟨g,cap,cur,hv,hg,hh,r⟩
 ·exact .inl h2
 ·exact .inr ⟨g,cap,cur,hv,hg,jq2 hh (hc g (by rw [hv];rfl)) u,r⟩
theorem IB.set_sc {q:Nat} {f:Flat} {sc sd sn si:Value} {W:World} (h:IB q f sc sd sn si W) (x:Value):IB q f x sd sn si (W.setCell ⟨q,13,none⟩ x):=by
 have h2:=jx4 h 13 x
 exact h2
theorem IB.empty {q:Nat} {f:Flat} {sc sd sn si:Value} {W:World} (h:IB q f sc sd sn si W) (h1:f.by_= []) (h2:f.til= []) (l:List Named):IB q {f with conds:=l,by_:= [],til:= []} sc sd sn si W:=by
 have e:icells {f with conds:=l,by_:= [],til:= []} sc sd sn si=icells f sc sd sn si:=by unfold icells;rw [h1,h2]
 unfold IB
 rw [e]
 exact h
def boolNat:Value→Nat| .bool true=>1|_=>0
def CRel (E:Env) (b q:Nat) (W:World) (f:Flat) (sd sn si:Value) (R:List Named) (sr:St) (v:Value) (wr:World):Prop:=
 ∃(m:Bool) (l:List Named) (s':St) (sc:Value),v= .bool m∧IB q f sc sd sn si wr∧wr.ownsRow W.heap.size 59 2 sc l.length (l.flatMap cval)∧After2 E b q s' W wr∧l.length+s'.rest.length+boolNat (.bool m)≤5002∧
  (m=true→ ∃n,s'.rest.length<n∧(l++(condsMore n s').1,(condsMore n s').2)=(R,sr))∧(m=false→(l,s')=(R,sr))
theorem circ_yes (E:Env) (b:Nat) (s:St) (W:World) (h:PW E b s W) (q:Nat) (f:Flat) (sd sn si:Value) (hI:IB q f nil sd sn si W) (hq:b<q) (hby:f.by_= []) (htil:f.til= []) (s1:St) (h1:acc [105,102] s=(true,s1)) (R:List Named) (sr:St) (h2:long condsMore s1=(R,sr)):
  Calls Tryd.prog 105 #[.pointer (some ⟨b,0,none⟩),.pointer (some ⟨q,0,none⟩)] W fun e w'=>e= .returned (.tuple #[])∧(∃sc,IB q {f with conds:=R,by_:=(circEnd R sr).1.2.1,til:=(circEnd R sr).1.2.2} sc sd sn si w'∧w'.ownsRow W.heap.size 59 2 sc R.length (R.flatMap cval))∧After2 E b q (circEnd R sr).2 W w':=by
 have HP:=hdd h;clear h
 have HI:=hdd hI;clear hI
 have H1:=hdd h1;clear h1
 have H2:=hdd h2;clear h2
 have HBY:=hdd hby;clear hby
 have HTIL:=hdd htil;clear htil
 have hql:=jq7 HI.o
 obtain ⟨i0,hi,hz0,hz1,hz2⟩:=info_parts info_named
 go_enter Tryd.func105,Tryd.ntmps105
 go_wp2_with fail
 refine (jx0 E b s [105,102] _ HP.o).mono ?_
 rw [H1.o]
 rintro e w1 ⟨rfl,hA⟩
 have HI1:Hid (IB q f nil sd sn si w1):=hA.2.blk HI.o (by omega)
 have HA:=hdd ((After2.start (q:=q) HP.o).trans hA);clear hA HI
 have hln:=HA.o.1.len
 go_wp2_with fail
 go_loopw [4] (fun v wr=>CRel E b q W f sd sn si R sr v wr) (fun v wr=>2*lft E b wr+boolNat v)
 case atStart=>exact ⟨true,[],s1,nil,rfl,HI1.o,World.ownsRow_nil _ _ _ _,HA.o,by show 0+s1.rest.length+1≤5002;omega,fun _=>⟨_,Nat.lt_succ_self _,H2.o⟩,fun h=>by cases h⟩
 case round=>
  obtain ⟨m,l,s',sc,rfl,hI,hO,hA,hb,hT,hF⟩:=hrel
  have hlf:=hA.1.lft
  obtain ⟨A5,cap5,rfl⟩:=own_form hO
  have HA:=hdd hA;clear hA
  have HI:=hdd hI;clear hI
  have HO:=hdd hO;clear hO
  cases m with
  |true=>
   obtain ⟨n,hn,hX⟩:=hT rfl
   clear hT hF
   obtain ⟨n,rfl⟩: ∃g,n=g+1:=⟨n-1,by omega⟩
   rw [jk8] at hX
   obtain ⟨x,s2,hx⟩: ∃x s2,name s'=(x,s2):=⟨_,_,rfl⟩
   obtain ⟨k,s3,hk⟩: ∃k s3,status s2=(k,s3):=⟨_,_,rfl⟩
   have hnm:named s'=(⟨x,k⟩,s3):=(jq3 hx).trans ((jq3 hk).trans rfl)
   rw [hnm] at hX
   have m1:=Mono.name s'
   have m2:=Mono.anyOf sts 1 s2
   rw [hx] at m1
   have hk2:anyOf sts 1 s2=(k,s3):=hk
   rw [hk2] at m2
   have HX:=hdd hX;have HXN:=hdd hx;have HK:=hdd hk
   have HLF:=hdd hlf
   clear hX hx hk hk2 hnm hlf
   go_wp2_with fail
   refine (name_any E b s' _ HA.o.1).mono ?_
   rw [HXN.o]
   rintro e w2 ⟨rfl,hA2⟩
   have HA2:=hdd (HA.o.trans hA2)
   have HI2:Hid (IB q f (.slice A5 l.length cap5) sd sn si w2):=hA2.2.blk HI.o (by omega)
   have HO2:=hdd (jx5 HO.o hA2.2 (fun k hk _ e=>by have:=HP.o.2.2.1;omega));clear hA2 HA HI HO
   go_wp2_with fail
   refine (status_any E b s2 _ (HA2.o.alloc _).1).mono ?_
   rw [HK.o]
   rintro e w3 ⟨rfl,hA3⟩
   have HA3:=hdd ((HA2.o.alloc _).trans hA3)
   have HI3:Hid (IB q f (.slice A5 l.length cap5) sd sn si w3):=hA3.2.blk (jq9 HI2.o _) (by omega)
   have HO3:=hdd (jx5 (jx5 HO2.o ((Fr.refl (fun _=>False) _).alloc _) (fun _ _ _ h=>h)) hA3.2 (fun k hk _ e=>by have:=HP.o.2.2.1;omega))
   have hs2:=HA2.o.2.size
   have hC:w3.heap[w2.heap.size]?=some (.cells #[.string ⟨x.toArray⟩,.int .i64 0] 59 (0,0)):=hA3.2.blk (jq5 (by simp)) (by omega)
   have c0:w3.cell? ⟨w2.heap.size,0,none⟩=some (.string ⟨x.toArray⟩):=jq0 hC 0
   have c1:w3.cell? ⟨w2.heap.size,1,none⟩=some (.int .i64 0):=jq0 hC 1
   have f1:w3.frozen? ⟨w2.heap.size,1,none⟩=false:=jq1 hC 1
   have HC:=hdd hC
   clear hA3 HA2 HI2 hC
   go_wp2_with fail
   have hbW:=HP.o.2.2.1
   have HRW:Hid (∀g,(Value.slice A5 l.length cap5).ownBlock=some g→W.heap.size≤g∧g<w2.heap.size):=fun g hg=>own_lt HO2.o g hg
   have hC4:=jx4 HC.o 1 (.int .i64 (k:Int))
   have hI4:IB q f (.slice A5 l.length cap5) sd sn si (w3.setCell ⟨w2.heap.size,1,none⟩ (.int .i64 (k:Int))):=jq2 HI3.o (by omega) _
   have hA4:=HA3.o.setn (i:=1) hs2 (by omega) (.int .i64 (k:Int))
   have hO4:=jv0 (i:=1) HO3.o (c:=w2.heap.size) (fun g hg=>by have:=(HRW.o g hg).2;omega) (.int .i64 (k:Int))
   generalize w3.setCell ⟨w2.heap.size,1,none⟩ (.int .i64 (k:Int))=W4 at*
   clear c0 c1 f1
   have c0:W4.cell? ⟨w2.heap.size,0,none⟩=some (.string ⟨x.toArray⟩):=jq0 hC4 0
   have c1:W4.cell? ⟨w2.heap.size,1,none⟩=some (.int .i64 (k:Int)):=jq0 hC4 1
   have k13:W4.cell? ⟨q,13,none⟩=some (.slice A5 l.length cap5):=jq0 hI4 13
   have k13a: ∀o,(W4.alloc o).cell? ⟨q,13,none⟩=some (.slice A5 l.length cap5):=fun o=>jq0 (jq9 hI4 o) 13
   have hc4:=jq7 hC4
   have HC4:=hdd hC4;have HI4:=hdd hI4;have HA4:=hdd hA4;have HO4:=hdd hO4
   clear hC4 hI4 hA4 hO4 HC HI3 HA3 HO3 HO2
   have HG:Hid (∀ob w5,((W4.drew).alloc ob).grownBy w5 (Value.slice A5 l.length cap5).ownBlock→w5.heap[q]?=W4.heap[q]?∧w5.heap[w2.heap.size]?=W4.heap[w2.heap.size]?∧Fr (fun k=>W.heap.size≤k) W4 w5):=by
    intro ob w5 hg
    have hk: ∀k,k<W4.heap.size→(∀g,(Value.slice A5 l.length cap5).ownBlock=some g→k≠g)→w5.heap[k]?=W4.heap[k]?:=by
     intro k hk hne
     rw [hg.block k (by simp only [World.size_alloc];show k<W4.heap.size+1;omega) (fun e=>hne k e.symm rfl)]
     exact Below.heap_alloc W4.drew ob k hk
    exact ⟨hk q (by omega) (fun g hg e=>by have:=(HRW.o g hg).1;omega),hk _ hc4 (fun g hg e=>by have:=(HRW.o g hg).2;omega),
     (((Fr.refl _ _).drew).alloc ob).grown hg (fun k hk=> .inl (HRW.o k hk).1)⟩
   have HK:Hid (∀w5:World,w5.heap[q]?=W4.heap[q]?→w5.cell? ⟨q,13,none⟩=some (.slice A5 l.length cap5)∧w5.frozen? ⟨q,13,none⟩=false):=fun w5 h=>⟨jq0 (h.trans HI4.o) 13,jq1 (h.trans HI4.o) 13⟩
   have HCC:Hid (∀w5:World,w5.heap[w2.heap.size]?=W4.heap[w2.heap.size]?→w5.cell? ⟨w2.heap.size,0,none⟩=some (.string ⟨x.toArray⟩)∧w5.cell? ⟨w2.heap.size,1,none⟩=some (.int .i64 (k:Int))):=fun w5 h=>⟨jq0 (h.trans HC4.o) 0,jq0 (h.trans HC4.o) 1⟩
   have ca0: ∀o,(W4.alloc o).cell? ⟨w2.heap.size,0,none⟩=some (.string ⟨x.toArray⟩):=fun o=>jq0 (jq9 HC4.o o) 0
   have ca1: ∀o,(W4.alloc o).cell? ⟨w2.heap.size,1,none⟩=some (.int .i64 (k:Int)):=fun o=>jq0 (jq9 HC4.o o) 1
   have hW4:=HA4.o.2.size
   go_region_law
    ((refine step_append_lies _ rfl (.tmp 21) (.tmp 23) 50 rfl W.heap.size 59 i0 _ 2 24 Tryd.underlying50 hi hz0 hz1 hz2 rfl (by decide) (.slice A5 l.length cap5) l.length _ (by rfl) ((HO4.o.alloc _).drew) ⟨W4.heap.size,0,none⟩ 1 1 [.string ⟨x.toArray⟩,.int .i64 (k:Int)] (by rfl) (by rfl) (World.news_of_block (cs:= #[.string ⟨x.toArray⟩,.int .i64 (k:Int)]) (t:=59) (fr:=(0,0)) (heap_alloc_new W4 _)) (by simp [Value.oneCell']) (by decide) (by have hb':l.length+s'.rest.length+1≤5002:=hb;simp only [maxLen];omega) (by have hb':l.length+s'.rest.length+1≤5002:=hb;omega) (by show W.heap.size≤(W4.heap.push _).size;rw [Array.size_push];omega) (W4.heap.size+1) (by show (W4.heap.push _).size=_;rw [Array.size_push]) ?_;intro gg cap1 w5 hown5 hgrow hat hlt5;have hg5:=HG.o _ _ hgrow;have d0:=(HCC.o w5 hg5.2.1).1;have d1:=(HCC.o w5 hg5.2.1).2;have e0:=(HK.o w5 hg5.1).1;have e1:=(HK.o w5 hg5.1).2;have HG5:=hdd hg5;have HO5:=hdd hown5;clear hg5 hown5 hgrow hat))
   all_goals
    have HI6:=hdd (IB.set_sc (HG5.o.1.trans HI4.o) (.slice (some ⟨gg,0,none⟩) (l.length+1) cap1))
    have HA6:=hdd ((HA4.o.fr HG5.o.2.2 hbW).set (i:=13) hq (.slice (some ⟨gg,0,none⟩) (l.length+1) cap1))
    have HGG:Hid (W.heap.size≤gg):=(own_lt HO5.o gg rfl).1
    have HO6:=hdd (jv0 (c:=q) (i:=13) HO5.o (fun g hg=>by have:=(own_lt HO5.o g hg).1;omega) (.slice (some ⟨gg,0,none⟩) (l.length+1) cap1))
    clear HI4 HA4 HO4 HO5 HG HK HCC HC4 HG5 d0 d1 e0 e1 k13 k13a c0 c1 ca0 ca1
    cases ha:(acc [97,110,100] s3).1 with
    |true=>
     obtain ⟨hl1,_⟩:=jk3 ha
     have hX3:(l++(⟨x,k⟩:Named)::(condsMore n (acc [97,110,100] s3).2).1,(condsMore n (acc [97,110,100] s3).2).2)=(R,sr):=by have:=HX.o;rw [if_pos ha] at this;exact this
     have HX3:=hdd hX3
     have HAA:=hdd ha
     clear hX3 ha
     go_wp2_with fail
     refine (jx0 E b s3 [97,110,100] _ HA6.o.1).mono ?_
     rw [HAA.o]
     rintro e w7 ⟨rfl,hA7⟩
     have HA7:=hdd (HA6.o.trans hA7)
     have hlf7:=HA7.o.1.lft
     have HN:Hid (CRel E b q W f sd sn si R sr (.bool true) w7):=by
      refine ⟨true,l++ [⟨x,k⟩],_,_,rfl,hA7.2.blk HI6.o (by omega),?_,HA7.o,?_,fun _=>⟨n,by omega,by rw [←HX3.o];simp⟩,fun h=>by cases h⟩
      ·rw [List.length_append,List.flatMap_append]
       exact jx5 HO6.o hA7.2 (fun k hk _ e=>by omega)
      ·have hb':l.length+s'.rest.length+1≤5002:=hb
       simp only [List.length_append,List.length_cons,List.length_nil];show _+1≤5002;omega
     have HM:Hid (2*lft E b w7+boolNat (.bool true)<2*lft E b wr+boolNat (.bool true)):=by show _<_;rw [hlf7,HLF.o];omega
     clear hA7 hlf7 HI6 HO6 HA6
     go_wp2_with fail
     go_roundw
     case rel=>exact HN.o
     case measure=>exact HM.o
    |false=>
     have hX3:(l++ [(⟨x,k⟩:Named)],(acc [97,110,100] s3).2)=(R,sr):=by have:=HX.o;rw [if_neg (by rw [ha];simp)] at this;exact this
     have hm3:=Mono.acc [97,110,100] s3
     have HX3:=hdd hX3
     have HAA:=hdd ha
     clear hX3 ha
     go_wp2_with fail
     refine (jx0 E b s3 [97,110,100] _ HA6.o.1).mono ?_
     rw [HAA.o]
     rintro e w7 ⟨rfl,hA7⟩
     have HA7:=hdd (HA6.o.trans hA7)
     have hlf7:=HA7.o.1.lft
     have HN:Hid (CRel E b q W f sd sn si R sr (.bool false) w7):=by
      refine ⟨false,l++ [⟨x,k⟩],_,_,rfl,hA7.2.blk HI6.o (by omega),?_,HA7.o,?_,(fun h=>by cases h),fun _=>HX3.o⟩
      ·rw [List.length_append,List.flatMap_append]
       exact jx5 HO6.o hA7.2 (fun k hk _ e=>by omega)
      ·have hb':l.length+s'.rest.length+1≤5002:=hb
       simp only [List.length_append,List.length_cons,List.length_nil];show _+0≤5002;omega
     have HM:Hid (2*lft E b w7+boolNat (.bool false)<2*lft E b wr+boolNat (.bool true)):=by show _<_;rw [hlf7,HLF.o];show 2*_+0<2*_+1;omega
     clear hA7 hlf7 HI6 HO6 HA6
     go_wp2_with fail
     go_roundw
     case rel=>exact HN.o
     case measure=>exact HM.o
  |false=>
   have e:=hF rfl
   injection e with e1 e2
   subst e1 e2
   clear hT hF hlf
   have hbW:=HP.o.2.2.1
   obtain ⟨pz,s3,hpz⟩: ∃x z,acc [112,97,117,115,101,100] s'=(x,z):=⟨_,_,rfl⟩
   cases pz with
   |true=>
    obtain ⟨u4,s4,h4⟩: ∃x s',expect [[98,121]] s3=(x,s'):=⟨_,_,rfl⟩
    obtain ⟨x,s5,h5⟩: ∃x s',name s4=(x,s'):=⟨_,_,rfl⟩
    obtain ⟨u6,s6,h6⟩: ∃x s',expect [[117,110,116,105,108]] s5=(x,s'):=⟨_,_,rfl⟩
    obtain ⟨y,s7,h7⟩: ∃x s',name s6=(x,s'):=⟨_,_,rfl⟩
    have hp:circEnd l s'=((l,x,y),s7):=(jz1 hpz).trans ((jx1 h4).trans ((jq3 h5).trans ((jx1 h6).trans ((jq3 h7).trans rfl))))
    have HPP:=hdd hp
    have HPZ:=hdd hpz;have H4:=hdd h4;have H5:=hdd h5;have H6:=hdd h6;have H7:=hdd h7
    clear hpz h4 h5 h6 h7 hp
    go_wp2_with fail
    refine (jx0 E b s' [112,97,117,115,101,100] _ HA.o.1).mono ?_
    rw [HPZ.o]
    rintro e v1 ⟨rfl,hv⟩
    have VI1:Hid (IB q f _ sd sn si v1):=hv.2.blk HI.o (by omega)
    have VO1:=hdd (jx5 HO.o hv.2 (fun k hk _ e=>by omega))
    have VA1:=hdd (HA.o.trans hv);clear hv
    go_wp2_with fail
    refine (expect1 E b s3 [98,121] _ _ (by simp) VA1.o.1).mono ?_
    rw [H4.o]
    rintro e v2 ⟨rfl,hv⟩
    have VI2:Hid (IB q f _ sd sn si v2):=hv.2.blk VI1.o (by omega)
    have VO2:=hdd (jx5 VO1.o hv.2 (fun k hk _ e=>by omega))
    have VA2:=hdd (VA1.o.trans hv);clear hv
    go_wp2_with fail
    refine (name_any E b s4 _ VA2.o.1).mono ?_
    rw [H5.o]
    rintro e v3 ⟨rfl,hv⟩
    have VI3:Hid (IB q f _ sd sn si v3):=hv.2.blk VI2.o (by omega)
    have VO3:=hdd (jx5 VO2.o hv.2 (fun k hk _ e=>by omega))
    have VA3:=hdd (VA2.o.trans hv);clear hv
    have k14:v3.cell? ⟨q,14,none⟩=some (.string ⟨f.by_.toArray⟩):=jq0 VI3.o 14
    have z14:v3.frozen? ⟨q,14,none⟩=false:=jq1 VI3.o 14
    go_wp2_with fail
    refine (expect1 E b s5 [117,110,116,105,108] _ _ (by simp) (VA3.o.set (i:=14) hq (.string ⟨x.toArray⟩)).1).mono ?_
    rw [H6.o]
    rintro e v4 ⟨rfl,hv⟩
    have VI4:Hid (IB q {f with by_:=x} _ sd sn si v4):=hv.2.blk (IB.set_by_ VI3.o x) (by omega)
    have VO4:=hdd (jx5 (jv0 (c:=q) (i:=14) VO3.o (fun g hg=>by have:=(own_lt VO3.o g hg).1;omega) (.string ⟨x.toArray⟩)) hv.2 (fun k hk _ e=>by omega))
    have VA4:=hdd ((VA3.o.set (i:=14) hq (.string ⟨x.toArray⟩)).trans hv);clear hv
    clear k14 z14
    go_wp2_with fail
    refine (name_any E b s6 _ VA4.o.1).mono ?_
    rw [H7.o]
    rintro e v5 ⟨rfl,hv⟩
    have VI5:Hid (IB q {f with by_:=x} _ sd sn si v5):=hv.2.blk VI4.o (by omega)
    have VO5:=hdd (jx5 VO4.o hv.2 (fun k hk _ e=>by omega))
    have VA5:=hdd (VA4.o.trans hv);clear hv
    have k15:v5.cell? ⟨q,15,none⟩=some (.string ⟨f.til.toArray⟩):=jq0 VI5.o 15
    have z15:v5.frozen? ⟨q,15,none⟩=false:=jq1 VI5.o 15
    go_wp2_with fail
    go_end0
    rw [HPP.o]
    exact ⟨rfl,⟨_,IB.set_til VI5.o y,jv0 (c:=q) (i:=15) VO5.o (fun g hg=>by have:=(own_lt VO5.o g hg).1;omega) (.string ⟨y.toArray⟩)⟩,VA5.o.set (i:=15) hq (.string ⟨y.toArray⟩)⟩
   |false=>
    have hp:circEnd l s'=((l,[],[]),s3):=(jx9 hpz).trans rfl
    have HPP:=hdd hp
    have HPZ:=hdd hpz
    clear hpz hp
    go_wp2_with fail
    refine (jx0 E b s' [112,97,117,115,101,100] _ HA.o.1).mono ?_
    rw [HPZ.o]
    rintro e v1 ⟨rfl,hv⟩
    have VI1:Hid (IB q f _ sd sn si v1):=hv.2.blk HI.o (by omega)
    have VO1:=hdd (jx5 HO.o hv.2 (fun k hk _ e=>by omega))
    have VA1:=hdd (HA.o.trans hv);clear hv
    go_wp2_with fail
    go_end0
    rw [HPP.o]
    exact ⟨rfl,⟨_,IB.empty VI1.o HBY.o HTIL.o _,VO1.o⟩,VA1.o⟩
theorem circ_no (E:Env) (b:Nat) (s:St) (W:World) (h:PW E b s W) (q:Nat) (f:Flat) (sd sn si:Value) (hI:IB q f nil sd sn si W) (hq:b<q) (hby:f.by_= []) (htil:f.til= []) (s1:St) (h1:acc [105,102] s=(false,s1)):
  Calls Tryd.prog 105 #[.pointer (some ⟨b,0,none⟩),.pointer (some ⟨q,0,none⟩)] W fun e w'=>e= .returned (.tuple #[])∧(∃sc,IB q {f with conds:= [],by_:=(circEnd [] s1).1.2.1,til:=(circEnd [] s1).1.2.2} sc sd sn si w'∧w'.ownsRow W.heap.size 59 2 sc ([]:List Named).length (([]:List Named).flatMap cval))∧After2 E b q (circEnd [] s1).2 W w':=by
 have HP:=hdd h;clear h
 have HI0:=hdd hI;clear hI
 have H1:=hdd h1;clear h1
 have HBY:=hdd hby;clear hby
 have HTIL:=hdd htil;clear htil
 have hql:=jq7 HI0.o
 go_enter Tryd.func105,Tryd.ntmps105
 go_wp2_with fail
 refine (jx0 E b s [105,102] _ HP.o).mono ?_
 rw [H1.o]
 rintro e w1 ⟨rfl,hA⟩
 have HI:Hid (IB q f nil sd sn si w1):=hA.2.blk HI0.o (by omega)
 have HA:=hdd ((After2.start (q:=q) HP.o).trans hA);clear hA HI0
 have HO:Hid (w1.ownsRow W.heap.size 59 2 nil ([]:List Named).length (([]:List Named).flatMap cval)):=World.ownsRow_nil _ _ _ _
 have hbW:=HP.o.2.2.1
 obtain ⟨pz,s3,hpz⟩: ∃x s',acc [112,97,117,115,101,100] s1=(x,s'):=⟨_,_,rfl⟩
 cases pz with
 |true=>
  obtain ⟨u4,s4,h4⟩: ∃x s',expect [[98,121]] s3=(x,s'):=⟨_,_,rfl⟩
  obtain ⟨x,s5,h5⟩: ∃x s',name s4=(x,s'):=⟨_,_,rfl⟩
  obtain ⟨u6,s6,h6⟩: ∃x s',expect [[117,110,116,105,108]] s5=(x,s'):=⟨_,_,rfl⟩
  obtain ⟨y,s7,h7⟩: ∃x s',name s6=(x,s'):=⟨_,_,rfl⟩
  have hp:circEnd [] s1=(([],x,y),s7):=(jz1 hpz).trans ((jx1 h4).trans ((jq3 h5).trans ((jx1 h6).trans ((jq3 h7).trans rfl))))
  have HPP:=hdd hp
  have HPZ:=hdd hpz;have H4:=hdd h4;have H5:=hdd h5;have H6:=hdd h6;have H7:=hdd h7
  clear hpz h4 h5 h6 h7 hp
  go_wp2_with fail
  refine (jx0 E b s1 [112,97,117,115,101,100] _ HA.o.1).mono ?_
  rw [HPZ.o]
  rintro e v1 ⟨rfl,hv⟩
  have VI1:Hid (IB q f _ sd sn si v1):=hv.2.blk HI.o (by omega)
  have VO1:=hdd (jx5 HO.o hv.2 (fun k hk _ e=>by omega))
  have VA1:=hdd (HA.o.trans hv);clear hv
  go_wp2_with fail
  refine (expect1 E b s3 [98,121] _ _ (by simp) VA1.o.1).mono ?_
  rw [H4.o]
  rintro e v2 ⟨rfl,hv⟩
  have VI2:Hid (IB q f _ sd sn si v2):=hv.2.blk VI1.o (by omega)
  have VO2:=hdd (jx5 VO1.o hv.2 (fun k hk _ e=>by omega))
  have VA2:=hdd (VA1.o.trans hv);clear hv
  go_wp2_with fail
  refine (name_any E b s4 _ VA2.o.1).mono ?_
  rw [H5.o]
  rintro e v3 ⟨rfl,hv⟩
  have VI3:Hid (IB q f _ sd sn si v3):=hv.2.blk VI2.o (by omega)
  have VO3:=hdd (jx5 VO2.o hv.2 (fun k hk _ e=>by omega))
  have VA3:=hdd (VA2.o.trans hv);clear hv
  have k14:v3.cell? ⟨q,14,none⟩=some (.string ⟨f.by_.toArray⟩):=jq0 VI3.o 14
  have z14:v3.frozen? ⟨q,14,none⟩=false:=jq1 VI3.o 14
  go_wp2_with fail
  refine (expect1 E b s5 [117,110,116,105,108] _ _ (by simp) (VA3.o.set (i:=14) hq (.string ⟨x.toArray⟩)).1).mono ?_
  rw [H6.o]
  rintro e v4 ⟨rfl,hv⟩
  have VI4:Hid (IB q {f with by_:=x} _ sd sn si v4):=hv.2.blk (IB.set_by_ VI3.o x) (by omega)
  have VO4:=hdd (jx5 (jv0 (c:=q) (i:=14) VO3.o (fun g hg=>by have:=(own_lt VO3.o g hg).1;omega) (.string ⟨x.toArray⟩)) hv.2 (fun k hk _ e=>by omega))
  have VA4:=hdd ((VA3.o.set (i:=14) hq (.string ⟨x.toArray⟩)).trans hv);clear hv
  clear k14 z14
  go_wp2_with fail
  refine (name_any E b s6 _ VA4.o.1).mono ?_
  rw [H7.o]
  rintro e v5 ⟨rfl,hv⟩
  have VI5:Hid (IB q {f with by_:=x} _ sd sn si v5):=hv.2.blk VI4.o (by omega)
  have VO5:=hdd (jx5 VO4.o hv.2 (fun k hk _ e=>by omega))
  have VA5:=hdd (VA4.o.trans hv);clear hv
  have k15:v5.cell? ⟨q,15,none⟩=some (.string ⟨f.til.toArray⟩):=jq0 VI5.o 15
  have z15:v5.frozen? ⟨q,15,none⟩=false:=jq1 VI5.o 15
  go_wp2_with fail
  go_end0
  rw [HPP.o]
  exact ⟨rfl,⟨_,IB.set_til VI5.o y,jv0 (c:=q) (i:=15) VO5.o (fun g hg=>by have:=(own_lt VO5.o g hg).1;omega) (.string ⟨y.toArray⟩)⟩,VA5.o.set (i:=15) hq (.string ⟨y.toArray⟩)⟩
 |false=>
  have hp:circEnd [] s1=(([],[],[]),s3):=(jx9 hpz).trans rfl
  have HPP:=hdd hp
  have HPZ:=hdd hpz
  clear hpz hp
  go_wp2_with fail
  refine (jx0 E b s1 [112,97,117,115,101,100] _ HA.o.1).mono ?_
  rw [HPZ.o]
  rintro e v1 ⟨rfl,hv⟩
  have VI1:Hid (IB q f _ sd sn si v1):=hv.2.blk HI.o (by omega)
  have VO1:=hdd (jx5 HO.o hv.2 (fun k hk _ e=>by omega))
  have VA1:=hdd (HA.o.trans hv);clear hv
  go_wp2_with fail
  go_end0
  rw [HPP.o]
  exact ⟨rfl,⟨_,IB.empty VI1.o HBY.o HTIL.o _,VO1.o⟩,VA1.o⟩
theorem kz1 (E:Env) (b:Nat) (s:St) (W:World) (h:PW E b s W) (q:Nat) (f:Flat) (sd sn si:Value) (hI:IB q f nil sd sn si W) (hq:b<q) (hby:f.by_= []) (htil:f.til= []):
  Calls Tryd.prog 105 #[.pointer (some ⟨b,0,none⟩),.pointer (some ⟨q,0,none⟩)] W fun e w'=>e= .returned (.tuple #[])∧(∃sc,IB q {f with conds:=(circ s).1.1,by_:=(circ s).1.2.1,til:=(circ s).1.2.2} sc sd sn si w'∧w'.ownsRow W.heap.size 59 2 sc (circ s).1.1.length ((circ s).1.1.flatMap cval))∧After2 E b q (circ s).2 W w':=by
 have hend: ∀R s',(circEnd R s').1.1=R:=by
  intro R s'
  unfold circEnd bnd
  dsimp only
  cases (acc [112,97,117,115,101,100] s').1<;>rfl
 obtain ⟨b1,s1,h1⟩: ∃x s',acc [105,102] s=(x,s'):=⟨_,_,rfl⟩
 cases b1 with
 |true=>
  obtain ⟨R,sr,h2⟩: ∃R sr,long condsMore s1=(R,sr):=⟨_,_,rfl⟩
  have hp:circ s=circEnd R sr:=(jz1 h1).trans (jq3 h2)
  rw [hp,hend]
  exact circ_yes E b s W h q f sd sn si hI hq hby htil s1 h1 R sr h2
 |false=>
  have hp:circ s=circEnd [] s1:=jx9 h1
  rw [hp,hend]
  exact circ_no E b s W h q f sd sn si hI hq hby htil s1 h1
end Go.Proofs.YtfaflipphkoiiaaDoor.Pr
