/-
  What the parser's method holiday returns. What the parser's method weekend returns.
-/
import Derived.Test.YtfaflipphkoiiaaDoorParCirc
set_option maxHeartbeats 64000000
set_option maxRecDepth 100000
set_option linter.unusedVariables false
namespace Go.Proofs.YtfaflipphkoiiaaDoor.Pr
open Go.RowKit Mem
open Lx (Tok)
theorem info_civil:(Tryd.prog.info? 24).map (fun i=>(i.zero,i.size,i.bytes))=some (some (.agg #[.int .i64 0,.int .i64 0,.int .i64 0]),3,24):=by kernel_rfl
theorem build_holi (w:World):(Instr.build 57 #[(0,.int .i64 5)]).run Tryd.prog w= .ok (.agg (icells {flat0 with kind:=5} nil nil nil nil).toArray) w:=by kernel_rfl
theorem IB.set_sd {q:Nat} {f:Flat} {sc sd sn si:Value} {W:World} (h:IB q f sc sd sn si W) (x:Value):IB q f sc x sn si (W.setCell ⟨q,30,none⟩ x):=by
 have h2:=jx4 h 30 x
 exact h2
def HRel (E:Env) (b:Nat) (W:World) (R:List Civil) (sr:St) (v:Value) (wr:World):Prop:=
 ∃(m:Bool) (l:List Civil) (s':St) (sd:Value),v= .bool m∧IB (W.heap.size+1) {flat0 with kind:=5} nil sd nil nil wr∧I0 W wr∧wr.ownsRow (W.heap.size+2) 24 3 sd l.length (l.flatMap dval)∧After E b s' W wr∧
  l.length+s'.rest.length+boolNat (.bool m)≤5002∧(m=true→ ∃n,s'.rest.length<n∧(l++(datesMore n s').1,(datesMore n s').2)=(R,sr))∧(m=false→(l,s')=(R,sr))
theorem kq9 {w2 w5:World} {ob:Obj} {row:Option Nat} {k:Nat} {o:Obj} (hg:(w2.alloc ob).grownBy w5 row) (h:w2.heap[k]?=some o) (hne: ∀g,row=some g→k≠g):w5.heap[k]?=some o:=
 (hg.block k (by simp only [World.size_alloc];have:=jq7 h;omega) (fun e=>hne k e.symm rfl)).trans (jq9 h ob)
theorem holi_app {E:Env} {b:Nat} {s3:St} {W w2 w5:World} {f:Flat} {sd:Value} {n:Nat} {xs:List Value} {ob:Obj} (hI:IB (W.heap.size+1) f nil sd nil nil w2) (hR:I0 W w2) (hO:w2.ownsRow (W.heap.size+2) 24 3 sd n xs) (hA:After E b s3 W w2) (hb:b<W.heap.size)
  (hg:(w2.alloc ob).grownBy w5 sd.ownBlock):IB (W.heap.size+1) f nil sd nil nil w5∧I0 W w5∧After E b s3 W w5:=
 ⟨kq9 hg hI (fun g hg e=>by have:=(own_lt hO g hg).1;omega),kq9 hg hR (fun g hg e=>by have:=(own_lt hO g hg).1;omega),hA.grown hg (fun g hg=>by have:=(own_lt hO g hg).1;omega) hb⟩
theorem ent_date (args:Array Value) (W:World):(callFunc 35 args).run Tryd.prog W= .ok (.enter 35 args) W:=by kernel_rfl
theorem step_call {ops:Array Oper} {o:Oper} {a:Act} {w:World} {K:Act→World→Prop} {Q:Exit→Act→World→Prop} {X:Prop} (hg:o.guard=none) (f:Nat) (xs:Array Operand) (ts:Array TypeId) (hop:o.op=Op.call {callee:=Callee.value (Operand.func f),args:=xs,argTypes:=ts})
  (hent: ∀args W,(callFunc f args).run Tryd.prog W= .ok (.enter f args) W) (args:Array Value) (hargs:xs.map a.eval=args) {R:Ending→World→Prop} (hc:Calls Tryd.prog f args w R) (h: ∀e w',R e w'→ ∃v,e= .returned v∧K (a.put o.dst v) w'):
  if Region.wanted o (yielded ops a.tmps)=true then Oper.wp Tryd.prog o a w K Q else X:=by
 have hw:Region.wanted o (yielded ops a.tmps)=true:=by simp [Region.wanted,hg]
 rw [if_pos hw]
 unfold Oper.wp
 have hr:(execOp a.eval o).run Tryd.prog w= .ok (.enter f args) w:=by
  simp [execOp,hop,resolve,invoke,go_sem,hargs,hent]
 rw [hr,Oper.upon_enter]
 refine hc.mono ?_
 intro e w' hR
 obtain ⟨v,rfl,hK⟩:=h e w' hR
 exact hK
theorem step_call1 {ops:Array Oper} {o:Oper} {a:Act} {w:World} {K:Act→World→Prop} {Q:Exit→Act→World→Prop} {X:Prop} (hg:o.guard=none) (f:Nat) (x0:Operand) (ts:Array TypeId) (hop:o.op=Op.call {callee:=Callee.value (Operand.func f),args:= #[x0],argTypes:=ts})
  (hent: ∀args W,(callFunc f args).run Tryd.prog W= .ok (.enter f args) W) (v0:Value) (hx:a.eval x0=v0) {R:Ending→World→Prop} (hc:Calls Tryd.prog f #[v0] w R) (h: ∀e w',R e w'→ ∃v,e= .returned v∧K (a.put o.dst v) w'):
  if Region.wanted o (yielded ops a.tmps)=true then Oper.wp Tryd.prog o a w K Q else X:=
 step_call hg f #[x0] ts hop hent #[v0] (by simp [hx]) hc h
theorem holiday_any (E:Env) (b:Nat) (s:St) (W:World) (h:PW E b s W):
  Calls Tryd.prog 65 #[.pointer (some ⟨b,0,none⟩)] W fun e w'=>(∃sc sd sn,e= .returned (.agg (icells (holiday s).1 sc sd sn nil).toArray)∧FlatOK W.heap.size (holiday s).1 sc sd sn w')∧After E b (holiday s).2 W w':=by
 have hbl:=h.2.2.1
 obtain ⟨i0,hi,hz0,hz1,hz2⟩:=info_parts info_civil
 obtain ⟨R,sr,h1⟩: ∃R sr,long datesMore s=(R,sr):=⟨_,_,rfl⟩
 obtain ⟨u2,s2,h2⟩: ∃x s',expect [[59]] sr=(x,s'):=⟨_,_,rfl⟩
 have hp:holiday s=({flat0 with kind:=5,dates:=R},s2):=(jq3 h1).trans ((jx1 h2).trans rfl)
 rw [hp]
 have HP:=hdd h;have H1:=hdd h1;have H2:=hdd h2
 clear h h1 h2 hp
 have hln:=HP.o.len
 go_enter Tryd.func65,Tryd.ntmps65
 go_wp2_with (first|(refine wpList_build rfl 57 _ rfl #[(0,.int .i64 5)] ?_ _ (build_holi _) ?_;(simp [Act.eval]))|(refine jq4 rfl 57 _ _ rfl (by simp [Act.eval]) (icells {flat0 with kind:=5} nil nil nil nil).toArray rfl (jq6 _ _ _ _ _) (ic1 ..) (by rfl) ?_))
 go_loopw [4] (fun v wr=>HRel E b W R sr v wr) (fun v wr=>2*lft E b wr+boolNat v)
 case atStart=>exact ⟨true,[],s,nil,rfl,jq5 (by simp),jq9 (jq5 (by simp)) _,World.ownsRow_nil _ _ _ _,((After.start HP.o).alloc _).alloc _,by show 0+s.rest.length+1≤5002;omega,fun _=>⟨_,Nat.lt_succ_self _,H1.o⟩,(fun h=>by cases h)⟩
 case round=>
  obtain ⟨m,l,s',sd,rfl,hI,hR,hO,hA,hb,hT,hF⟩:=hrel
  have hlf:=hA.1.lft
  obtain ⟨A5,cap5,rfl⟩:=own_form hO
  have HA:=hdd hA;clear hA
  have HI:=hdd hI;clear hI
  have HR:=hdd hR;clear hR
  have HO:=hdd hO;clear hO
  cases m with
  |true=>
   obtain ⟨n,hn,hX⟩:=hT rfl
   clear hT hF
   obtain ⟨n,rfl⟩: ∃g,n=g+1:=⟨n-1,by omega⟩
   rw [jk7] at hX
   obtain ⟨x,s3,hd⟩: ∃x s3,date s'=(x,s3):=⟨_,_,rfl⟩
   have m1:=Mono.date s'
   rw [hd] at hX m1
   have hb':l.length+s'.rest.length+1≤5002:=hb
   have HX:=hdd hX;have HD:=hdd hd;have HLF:=hdd hlf
   clear hX hd hlf hb
   have k30:wr.cell? ⟨W.heap.size+1,30,none⟩=some (.slice A5 l.length cap5):=jq0 HI.o 30
   have HAd:Hid (After E b s' W wr.drew):=HA.o.drewN 1
   have HId:Hid (IB (W.heap.size+1) {flat0 with kind:=5} nil (.slice A5 l.length cap5) nil nil wr.drew):=HI.o
   have HRd:Hid (I0 W wr.drew):=HR.o
   have HOd:Hid (wr.drew.ownsRow (W.heap.size+2) 24 3 (.slice A5 l.length cap5) l.length (l.flatMap dval)):=HO.o
   go_wp2_with fail
   go_region_law (first|(refine step_call1 rfl 35 _ _ rfl ent_date (.pointer (some ⟨b,0,none⟩)) (by rfl) (date_any E b s' wr.drew HAd.o.1) ?_;rw [HD.o];rintro e w2 ⟨rfl,hA2⟩;refine ⟨_,rfl,?_⟩;have HA2:=hdd (HAd.o.trans hA2);have HI2:Hid (IB (W.heap.size+1) {flat0 with kind:=5} nil (.slice A5 l.length cap5) nil nil w2):=(hA2.2.blk HId.o (by omega));have HR2:Hid (I0 W w2):=(hA2.2.blk HRd.o (by omega));have HO2:=hdd (jx5 HOd.o hA2.2 (fun k hk _ e=>by omega));have j30:w2.cell? ⟨W.heap.size+1,30,none⟩=some (.slice A5 l.length cap5):=(jq0 HI2.o 30);have j30a: ∀o,(w2.alloc o).cell? ⟨W.heap.size+1,30,none⟩=some (.slice A5 l.length cap5):=(fun o=>jq0 (jq9 HI2.o o) 30);have hz2w:W.heap.size+1<w2.heap.size:=(jq7 HI2.o);clear hA2)|(refine step_append_lies _ rfl (.tmp 10) (.tmp 13) 54 rfl (W.heap.size+2) 24 i0 _ 3 24 Tryd.underlying54 hi hz0 hz1 hz2 rfl (by decide) (.slice A5 l.length cap5) l.length _ (by rfl) (HO2.o.alloc _) ⟨w2.heap.size,0,none⟩ 1 1 (dval x) (by rfl) (by rfl) (World.news_of_block (cs:= #[.int .i64 (x.y:Int),.int .i64 (x.m:Int),.int .i64 (x.d:Int)]) (t:=24) (fr:=(0,0)) (heap_alloc_new w2 _)) (by simp [dval,Value.oneCell']) (by decide) (by simp only [maxLen];omega) (by omega) (by simp only [World.size_alloc];omega) (w2.heap.size+1) (by simp) ?_;intro gg cap1 w5 hown5 hgrow hat hlt5;have hg5:=holi_app HI2.o HR2.o HO2.o HA2.o hbl hgrow;have e0:w5.cell? ⟨W.heap.size+1,30,none⟩=some (.slice A5 l.length cap5):=(jq0 hg5.1 30);have e1:w5.frozen? ⟨W.heap.size+1,30,none⟩=false:=(jq1 hg5.1 30);have HG5:=hdd hg5;have HO5:=hdd hown5;clear hg5 hown5 hgrow hat))
   all_goals
    have HI6:=hdd (IB.set_sd HG5.o.1 (.slice (some ⟨gg,0,none⟩) (l.length+1) cap1))
    have HR6:Hid (I0 W _):=jq2 (q:=W.heap.size+1) (i:=30) HG5.o.2.1 (by omega) (.slice (some ⟨gg,0,none⟩) (l.length+1) cap1)
    have HA6:=hdd (HG5.o.2.2.set (q:=W.heap.size+1) (i:=30) (by omega) (by omega) (.slice (some ⟨gg,0,none⟩) (l.length+1) cap1))
    have HO6:=hdd (jv0 (c:=W.heap.size+1) (i:=30) HO5.o (fun g hg=>by have:=(own_lt HO5.o g hg).1;omega) (.slice (some ⟨gg,0,none⟩) (l.length+1) cap1))
    clear HI HR HO HA HAd HId HRd HOd HI2 HR2 HO2 HA2 HG5 HO5 e0 e1 j30 j30a k30
    cases ha:(acc [44] s3).1 with
    |true=>
     obtain ⟨hl1,_⟩:=jk3 ha
     have hX3:(l++x::(datesMore n (acc [44] s3).2).1,(datesMore n (acc [44] s3).2).2)=(R,sr):=by have:=HX.o;rw [if_pos ha] at this;exact this
     have HX3:=hdd hX3
     have HAA:=hdd ha
     clear hX3 ha
     go_wp2_with fail
     refine (jx0 E b s3 [44] _ HA6.o.1).mono ?_
     rw [HAA.o]
     rintro e w7 ⟨rfl,hA7⟩
     have HA7:=hdd (HA6.o.trans hA7)
     have hlf7:=HA7.o.1.lft
     have HN:Hid (HRel E b W R sr (.bool true) w7):=by
      refine ⟨true,l++ [x],_,_,rfl,hA7.2.blk HI6.o (by omega),hA7.2.blk HR6.o (by omega),?_,HA7.o,?_,fun _=>⟨n,by omega,by rw [←HX3.o];simp⟩,(fun h=>by cases h)⟩
      ·rw [List.length_append,List.flatMap_append]
       have: [x].flatMap dval=dval x:=by simp
       rw [this]
       exact jx5 HO6.o hA7.2 (fun k hk _ e=>by omega)
      ·simp only [List.length_append,List.length_cons,List.length_nil];show _+1≤5002;omega
     have HM:Hid (2*lft E b w7+boolNat (.bool true)<2*lft E b wr+boolNat (.bool true)):=by show _<_;rw [hlf7,HLF.o];show 2*_+1<2*_+1;omega
     clear hA7 hlf7 HI6 HR6 HO6 HA6
     go_wp2_with fail
     go_roundw
     case rel=>exact HN.o
     case measure=>exact HM.o
    |false=>
     have hm3:=Mono.acc [44] s3
     have hX3:(l++ [x],(acc [44] s3).2)=(R,sr):=by have:=HX.o;rw [if_neg (by rw [ha];simp)] at this;exact this
     have HX3:=hdd hX3
     have HAA:=hdd ha
     clear hX3 ha
     go_wp2_with fail
     refine (jx0 E b s3 [44] _ HA6.o.1).mono ?_
     rw [HAA.o]
     rintro e w7 ⟨rfl,hA7⟩
     have HA7:=hdd (HA6.o.trans hA7)
     have hlf7:=HA7.o.1.lft
     have HN:Hid (HRel E b W R sr (.bool false) w7):=by
      refine ⟨false,l++ [x],_,_,rfl,hA7.2.blk HI6.o (by omega),hA7.2.blk HR6.o (by omega),?_,HA7.o,?_,(fun h=>by cases h),fun _=>HX3.o⟩
      ·rw [List.length_append,List.flatMap_append]
       have: [x].flatMap dval=dval x:=by simp
       rw [this]
       exact jx5 HO6.o hA7.2 (fun k hk _ e=>by omega)
      ·simp only [List.length_append,List.length_cons,List.length_nil];show _+0≤5002;omega
     have HM:Hid (2*lft E b w7+boolNat (.bool false)<2*lft E b wr+boolNat (.bool true)):=by show _<_;rw [hlf7,HLF.o];show 2*_+0<2*_+1;omega
     clear hA7 hlf7 HI6 HR6 HO6 HA6
     go_wp2_with fail
     go_roundw
     case rel=>exact HN.o
     case measure=>exact HM.o
  |false=>
   have e:=hF rfl
   injection e with e1 e2
   subst e1 e2
   clear hT hF hlf
   go_wp2_with fail
   refine (expect1 E b s' [59] _ _ (by simp) HA.o.1).mono ?_
   rw [H2.o]
   rintro e w6 ⟨rfl,hA6⟩
   have HI6:Hid (IB (W.heap.size+1) {flat0 with kind:=5,dates:=l} nil (.slice A5 l.length cap5) nil nil w6):=hA6.2.blk HI.o (by omega)
   have HR6:Hid (I0 W w6):=hA6.2.blk HR.o (by omega)
   have HO6:=hdd (jx5 HO.o hA6.2 (fun k hk _ e=>by omega))
   have HA6:=hdd (HA.o.trans hA6);clear hA6 HA HI HR HO
   obtain ⟨w99,hw99,hA99,hl99,ho99⟩:=item_end HR6.o HA6.o hbl {flat0 with kind:=5,dates:=l} nil (.slice A5 l.length cap5) nil nil
   have R99:=hdd (own_base (ho99 _ _ _ _ _ _ (by omega) HO6.o) (by omega:W.heap.size≤_))
   have HW99:=hdd hw99;clear hw99
   have HA99:=hdd hA99;clear hA99
   have HL99:=hdd hl99;clear hl99 ho99
   go_wp2_with (first|(refine wpList_load_mid rfl 57 _ rfl (W.heap.size+1) 0 rfl (icells {flat0 with kind:=5,dates:=l} nil (.slice A5 l.length cap5) nil nil) _ HI6.o.range Tryd.underlying57 rfl (jx6 _ _ _ _ _) ?_)|(refine wpList_store_mid rfl 57 _ _ rfl W.heap.size 0 (icells {flat0 with kind:=5,dates:=l} nil (.slice A5 l.length cap5) nil nil).toArray rfl rfl (HR6.o.there' _ _ _ _ _) (jq6 _ _ _ _ _) (ic1 ..) ?_;rw [HW99.o]))
   exact bodyPost_ret (v:= .agg (icells {flat0 with kind:=5,dates:=l} nil (.slice A5 l.length cap5) nil nil).toArray) (jq8 Tryd.results65 rfl HL99.o) rfl ⟨⟨nil,_,nil,rfl,World.ownsRow_nil _ _ _ _,R99.o,World.ownsRow_nil _ _ _ _⟩,HA99.o⟩
end Go.Proofs.YtfaflipphkoiiaaDoor.Pr
namespace Go.Proofs.YtfaflipphkoiiaaDoor.Pr
open Go.RowKit Mem
open Lx (Tok)
theorem build_week (w:World):(Instr.build 57 #[(0,.int .i64 4)]).run Tryd.prog w= .ok (.agg (icells {flat0 with kind:=4} nil nil nil nil).toArray) w:=by kernel_rfl
theorem IB.set_day {q:Nat} {f:Flat} {sc sd sn si:Value} {W:World} {l:List Bool} (h:IB q {f with days:=l} sc sd sn si W) (hl:l.length=7) (d:Nat) (hd:d<7):IB q {f with days:=l.set d true} sc sd sn si (W.setCell ⟨q,23+d,none⟩ (.bool true)):=by
 match l,hl with
 | [a0,a1,a2,a3,a4,a5,a6],_=>
  have hc:d=0∨d=1∨d=2∨d=3∨d=4∨d=5∨d=6:=by omega
  rcases hc with rfl|rfl|rfl|rfl|rfl|rfl|rfl
  ·exact jx4 h 23 (.bool true)
  ·exact jx4 h 24 (.bool true)
  ·exact jx4 h 25 (.bool true)
  ·exact jx4 h 26 (.bool true)
  ·exact jx4 h 27 (.bool true)
  ·exact jx4 h 28 (.bool true)
  ·exact jx4 h 29 (.bool true)
theorem IB.day {q:Nat} {f:Flat} {sc sd sn si:Value} {W:World} (h:IB q f sc sd sn si W) (d:Nat) (hd:d<7): ∃v,W.cell? ⟨q,23+d,none⟩=some v:=by
 rw [jq0 h]
 have:23+d<(icells f sc sd sn si).length:=by show 23+d<33;omega
 exact ⟨_,by simp [this];rfl⟩
theorem anyOf_lt (l:List Bytes): ∀(i n:Nat) (s:St),i+l.length≤n→0<n→(anyOf l i s).1<n:=by
 induction l with
 |nil=>intro i n s h h0;exact h0
 |cons x r ih=>
  intro i n s h h0
  rw [anyOf_cons]
  simp only [List.length_cons] at h
  split
  ·show i<n;omega
  ·exact ih _ _ _ (by omega) h0
def KRel (E:Env) (b:Nat) (W:World) (R:List Bool) (sr:St) (v:Value) (wr:World):Prop:=
 ∃(m:Bool) (l:List Bool) (s':St),v= .bool m∧IB (W.heap.size+1) {flat0 with kind:=4,days:=l} nil nil nil nil wr∧I0 W wr∧After E b s' W wr∧l.length=7∧
  (m=true→ ∃n,s'.rest.length<n∧weekendMore n l s'=(R,sr))∧(m=false→(l,(expect [[59]] s').2)=(R,sr))
theorem weekend_any (E:Env) (b:Nat) (s:St) (W:World) (h:PW E b s W):
  Calls Tryd.prog 64 #[.pointer (some ⟨b,0,none⟩)] W fun e w'=>(∃sc sd sn,e= .returned (.agg (icells (weekend s).1 sc sd sn nil).toArray)∧FlatOK W.heap.size (weekend s).1 sc sd sn w')∧After E b (weekend s).2 W w':=by
 have hbl:=h.2.2.1
 obtain ⟨R,sr,h1⟩: ∃R sr,long (fun f=>weekendMore f flat0.days) s=(R,sr):=⟨_,_,rfl⟩
 have hp:weekend s=({flat0 with kind:=4,days:=R},sr):=(jq3 h1).trans rfl
 rw [hp]
 have HP:=hdd h;have H1:=hdd h1
 clear h h1 hp
 go_enter Tryd.func64,Tryd.ntmps64
 go_wp2_with (first|(refine wpList_build rfl 57 _ rfl #[(0,.int .i64 4)] ?_ _ (build_week _) ?_;(simp [Act.eval]))|(refine jq4 rfl 57 _ _ rfl (by simp [Act.eval]) (icells {flat0 with kind:=4} nil nil nil nil).toArray rfl (jq6 _ _ _ _ _) (ic1 ..) (by rfl) ?_))
 go_loopw [4] (fun v wr=>KRel E b W R sr v wr) (fun v wr=>2*lft E b wr+boolNat v)
 case atStart=>exact ⟨true,flat0.days,s,rfl,jq5 (by simp),jq9 (jq5 (by simp)) _,((After.start HP.o).alloc _).alloc _,rfl,fun _=>⟨_,Nat.lt_succ_self _,H1.o⟩,(fun h=>by cases h)⟩
 case round=>
  obtain ⟨m,l,s',rfl,hI,hR,hA,hl7,hT,hF⟩:=hrel
  have hlf:=hA.1.lft
  have HA:=hdd hA;clear hA
  have HI:=hdd hI;clear hI
  have HR:=hdd hR;clear hR
  have HL7:=hdd hl7;clear hl7
  cases m with
  |true=>
   obtain ⟨n,hn,hX⟩:=hT rfl
   clear hT hF
   obtain ⟨n,rfl⟩: ∃g,n=g+1:=⟨n-1,by omega⟩
   rw [jz9] at hX
   obtain ⟨d,s3,hd⟩: ∃d s3,weekday s'=(d,s3):=⟨_,_,rfl⟩
   have hd2:anyOf wdays 0 s'=(d,s3):=hd
   have m1:=Mono.anyOf wdays 0 s'
   have hlt:=anyOf_lt wdays 0 7 s' (by decide) (by decide)
   rw [hd2] at m1 hlt
   rw [hd] at hX
   have hlt7:d<7:=hlt
   have HX:=hdd hX;have HD:=hdd hd;have HLF:=hdd hlf
   clear hX hd hd2 hlf hlt
   by_cases he:s3.err=0
   ·have HE:=hdd he;clear he
    have i1:(0:Int)≤(d:Int):=Int.natCast_nonneg _
    have i2:(d:Int)<7:=by omega
    go_wp2_with fail
    refine (weekday_any E b s' _ HA.o.1).mono ?_
    rw [HD.o]
    rintro e w2 ⟨rfl,hA2⟩
    have HI2:Hid (IB (W.heap.size+1) {flat0 with kind:=4,days:=l} nil nil nil nil w2):=hA2.2.blk HI.o (by omega)
    have HR2:Hid (I0 W w2):=hA2.2.blk HR.o (by omega)
    have HA2:=hdd (HA.o.trans hA2);clear hA2 HA HI HR
    obtain ⟨vd,kd⟩:=HI2.o.day d hlt7
    have fd:w2.frozen? ⟨W.heap.size+1,23+d,none⟩=false:=jq1 HI2.o _
    go_wp2_with fail
    refine (ok_yes E b s3 _ HA2.o.1 HE.o).mono ?_
    rintro e w3 ⟨rfl,hw3⟩
    subst hw3
    go_wp2_with fail
    have HI6:=hdd (IB.set_day (f:= {flat0 with kind:=4}) HI2.o HL7.o d hlt7)
    have HR6:Hid (I0 W _):=jq2 (q:=W.heap.size+1) (i:=23+d) HR2.o (by omega) (.bool true)
    have HA6:=hdd (HA2.o.set (q:=W.heap.size+1) (i:=23+d) (by omega) (by omega) (.bool true))
    clear HI2 HR2 HA2 kd fd
    cases ha:(acc [44] s3).1 with
    |true=>
     obtain ⟨hl1,_⟩:=jk3 ha
     have hX3:weekendMore n (l.set d true) (acc [44] s3).2=(R,sr):=by have:=HX.o;rw [if_pos HE.o,if_pos ha] at this;exact this
     have HX3:=hdd hX3
     have HAA:=hdd ha
     clear hX3 ha
     refine (jx0 E b s3 [44] _ HA6.o.1).mono ?_
     rw [HAA.o]
     rintro e w7 ⟨rfl,hA7⟩
     have HA7:=hdd (HA6.o.trans hA7)
     have hlf7:=HA7.o.1.lft
     have HN:Hid (KRel E b W R sr (.bool true) w7):=by
      refine ⟨true,l.set d true,_,rfl,hA7.2.blk HI6.o (by omega),hA7.2.blk HR6.o (by omega),HA7.o,by rw [List.length_set];exact HL7.o,fun _=>⟨n,by omega,HX3.o⟩,(fun h=>by cases h)⟩
     have HM:Hid (2*lft E b w7+boolNat (.bool true)<2*lft E b wr+boolNat (.bool true)):=by show _<_;rw [hlf7,HLF.o];show 2*_+1<2*_+1;omega
     clear hA7 hlf7 HI6 HR6 HA6
     go_wp2_with fail
     go_roundw
     case rel=>exact HN.o
     case measure=>exact HM.o
    |false=>
     have hm3:=Mono.acc [44] s3
     have hX3:(l.set d true,(expect [[59]] (acc [44] s3).2).2)=(R,sr):=by have:=HX.o;rw [if_pos HE.o,if_neg (by rw [ha];simp)] at this;exact this
     have HX3:=hdd hX3
     have HAA:=hdd ha
     clear hX3 ha
     refine (jx0 E b s3 [44] _ HA6.o.1).mono ?_
     rw [HAA.o]
     rintro e w7 ⟨rfl,hA7⟩
     have HA7:=hdd (HA6.o.trans hA7)
     have hlf7:=HA7.o.1.lft
     have HN:Hid (KRel E b W R sr (.bool false) w7):=by
      refine ⟨false,l.set d true,_,rfl,hA7.2.blk HI6.o (by omega),hA7.2.blk HR6.o (by omega),HA7.o,by rw [List.length_set];exact HL7.o,(fun h=>by cases h),fun _=>HX3.o⟩
     have HM:Hid (2*lft E b w7+boolNat (.bool false)<2*lft E b wr+boolNat (.bool true)):=by show _<_;rw [hlf7,HLF.o];show 2*_+0<2*_+1;omega
     clear hA7 hlf7 HI6 HR6 HA6
     go_wp2_with fail
     go_roundw
     case rel=>exact HN.o
     case measure=>exact HM.o
   ·have HE:=hdd he;clear he
    have hX3:(l,s3)=(R,sr):=by have:=HX.o;rw [if_neg HE.o] at this;exact this
    injection hX3 with e1 e2
    subst e1 e2
    go_wp2_with fail
    refine (weekday_any E b s' _ HA.o.1).mono ?_
    rw [HD.o]
    rintro e w2 ⟨rfl,hA2⟩
    have HI2:Hid (IB (W.heap.size+1) {flat0 with kind:=4,days:=l} nil nil nil nil w2):=hA2.2.blk HI.o (by omega)
    have HR2:Hid (I0 W w2):=hA2.2.blk HR.o (by omega)
    have HA2:=hdd (HA.o.trans hA2);clear hA2 HA HI HR
    go_wp2_with fail
    refine (ok_no E b s3 _ HA2.o.1 HE.o).mono ?_
    rintro e w3 ⟨rfl,hw3⟩
    subst hw3
    obtain ⟨w99,hw99,hA99,hl99,ho99⟩:=item_end HR2.o HA2.o hbl {flat0 with kind:=4,days:=l} nil nil nil nil
    have HW99:=hdd hw99;clear hw99
    have HA99:=hdd hA99;clear hA99
    have HL99:=hdd hl99;clear hl99 ho99
    go_wp2_with (first|(refine wpList_load_mid rfl 57 _ rfl (W.heap.size+1) 0 rfl (icells {flat0 with kind:=4,days:=l} nil nil nil nil) _ HI2.o.range Tryd.underlying57 rfl (jx6 _ _ _ _ _) ?_)|(refine wpList_store_mid rfl 57 _ _ rfl W.heap.size 0 (icells {flat0 with kind:=4,days:=l} nil nil nil nil).toArray rfl rfl (HR2.o.there' _ _ _ _ _) (jq6 _ _ _ _ _) (ic1 ..) ?_;rw [HW99.o]))
    exact bodyPost_ret (v:= .agg (icells {flat0 with kind:=4,days:=l} nil nil nil nil).toArray) (jq8 Tryd.results64 rfl HL99.o) rfl ⟨⟨nil,nil,nil,rfl,FlatOK.nil _ _ _ rfl rfl rfl⟩,HA99.o⟩
  |false=>
   obtain ⟨u5,s5,h5⟩: ∃x z,expect [[59]] s'=(x,z):=⟨_,_,rfl⟩
   have e:=hF rfl
   rw [h5] at e
   injection e with e1 e2
   have e3:s5=sr:=e2
   subst e1 e3
   have H5:=hdd h5
   clear hT hF hlf e2 h5
   go_wp2_with fail
   refine (expect1 E b s' [59] _ _ (by simp) HA.o.1).mono ?_
   rw [H5.o]
   rintro e w2 ⟨rfl,hA2⟩
   have HI2:Hid (IB (W.heap.size+1) {flat0 with kind:=4,days:=l} nil nil nil nil w2):=hA2.2.blk HI.o (by omega)
   have HR2:Hid (I0 W w2):=hA2.2.blk HR.o (by omega)
   have HA2:=hdd (HA.o.trans hA2);clear hA2 HA HI HR
   obtain ⟨w99,hw99,hA99,hl99,ho99⟩:=item_end HR2.o HA2.o hbl {flat0 with kind:=4,days:=l} nil nil nil nil
   have HW99:=hdd hw99;clear hw99
   have HA99:=hdd hA99;clear hA99
   have HL99:=hdd hl99;clear hl99 ho99
   go_wp2_with (first|(refine wpList_load_mid rfl 57 _ rfl (W.heap.size+1) 0 rfl (icells {flat0 with kind:=4,days:=l} nil nil nil nil) _ HI2.o.range Tryd.underlying57 rfl (jx6 _ _ _ _ _) ?_)|(refine wpList_store_mid rfl 57 _ _ rfl W.heap.size 0 (icells {flat0 with kind:=4,days:=l} nil nil nil nil).toArray rfl rfl (HR2.o.there' _ _ _ _ _) (jq6 _ _ _ _ _) (ic1 ..) ?_;rw [HW99.o]))
   exact bodyPost_ret (v:= .agg (icells {flat0 with kind:=4,days:=l} nil nil nil nil).toArray) (jq8 Tryd.results64 rfl HL99.o) rfl ⟨⟨nil,nil,nil,rfl,FlatOK.nil _ _ _ rfl rfl rfl⟩,HA99.o⟩
end Go.Proofs.YtfaflipphkoiiaaDoor.Pr
