/-
  What some functions of the reference's parser return (printed by mkrp6.py): clause.
-/
import Derived.Test.YtfaflipphkoiiaaDoorPkRpB
set_option maxHeartbeats 64000000
set_option maxRecDepth 100000
set_option linter.unusedVariables false
namespace Go.Proofs.YtfaflipphkoiiaaDoor.Rp
open Go.RowKit Mem Pr
open Lx (Tok isDigit isLetter isSym)
def dutyR (n:Bytes):M Flat:=Pr.bnd bearer fun oa=>Pr.bnd (opt 2) fun t=>match t with|some t=>Pr.seq (expect [[116,105,109,101,115]]) (rdutyTail n oa t.n)|none=>rdutyTail n oa 1
def banR (n:Bytes):M Flat:=Pr.bnd bearer fun oa=>Pr.seq (expect [[102,111,114]]) (Pr.bnd rspan fun w=>Pr.bnd circ fun c=>Pr.bnd rprice fun q=>Pr.seq (expect [[59]])
  (Pr.ret {flat0 with kind:=10,name:=n,of_:=oa.1,act:=oa.2,within:=w,conds:=c.1,by_:=c.2.1,til:=c.2.2,num:=q.1.num,unit:=q.1.unit,sum:=q.1.sum,to_:=q.1.to_,fin:=q.2}))
def optR (n:Bytes):M Flat:=Pr.bnd bearer fun oa=>Pr.seq (expect [[119,105,116,104,105,110]]) (Pr.bnd rspan fun w=>Pr.bnd circ fun c=>Pr.seq (expect [[59]])
  (Pr.ret {flat0 with kind:=11,name:=n,of_:=oa.1,act:=oa.2,within:=w,conds:=c.1,by_:=c.2.1,til:=c.2.2}))
def watR (n:Bytes):M Flat:=Pr.seq (expect [[58]]) (Pr.bnd name fun a=>Pr.seq (expect [[119,105,116,104,105,110]]) (Pr.bnd rspan fun w=>Pr.bnd circ fun c=>Pr.seq (expect [[59]])
  (Pr.ret {flat0 with kind:=12,name:=n,act:=a,within:=w,conds:=c.1,by_:=c.2.1,til:=c.2.2})))
theorem ban_p (E:Env) (b:Nat) (s:St) (W:World) (h:PW E b s W) (q:Nat) (n:Bytes) (p:Nat) (hI:IB q {flat0 with kind:=10,name:=n,pos:=p} nil nil nil nil W) (hq:b<q) (u1:Unit) (s1:St) (o:Bytes) (s2:St) (u3:Unit) (s3:St) (a:Bytes) (s4:St) (u5:Unit) (s5:St) (w:Span) (s6:St) (c:List Named×Bytes×Bytes) (s7:St) (pq:Price×Bool) (s8:St) (u9:Unit) (s9:St) (h1:expect [[111,102]] s=(u1,s1)) (h2:name s1=(o,s2)) (h3:expect [[58]] s2=(u3,s3)) (h4:name s3=(a,s4)) (h5:expect [[102,111,114]] s4=(u5,s5)) (h6:rspan s5=(w,s6)) (h7:circ s6=(c,s7)) (h8:rprice s7=(pq,s8)) (h9:expect [[59]] s8=(u9,s9)):
  Calls Tryd.prog 53 #[.pointer (some ⟨b,0,none⟩),.pointer (some ⟨q,0,none⟩)] W fun e w'=>e= .returned (.tuple #[])∧(∃sc,IB q {flat0 with kind:=10,name:=n,pos:=p,of_:=o,act:=a,within:=w,conds:=c.1,by_:=c.2.1,til:=c.2.2,num:=pq.1.num,unit:=pq.1.unit,sum:=pq.1.sum,to_:=pq.1.to_,fin:=pq.2} sc nil nil nil w'∧w'.ownsRow W.heap.size 59 2 sc c.1.length (c.1.flatMap cval))∧After2 E b q s9 W w':=by
 have hbW:=h.2.2.1
 have hqW:=jq7 hI
 have HP:=hdd h;clear h
 have HI:=hdd hI;clear hI
 have H1:=hdd h1;clear h1
 have H2:=hdd h2;clear h2
 have H3:=hdd h3;clear h3
 have H4:=hdd h4;clear h4
 have H5:=hdd h5;clear h5
 have H6:=hdd h6;clear h6
 have H7:=hdd h7;clear h7
 have H8:=hdd h8;clear h8
 have H9:=hdd h9;clear h9
 go_enter Tryd.func53,Tryd.ntmps53
 have k_0:W.cell? ⟨q,0,none⟩=some (.int .i64 10):=jq0 HI.o 0
 have f_0:W.frozen? ⟨q,0,none⟩=false:=jq1 HI.o 0
 go_wp2_with fail
 refine (jx3 E b s [111,102] _ (After2.start (q:=q) HP.o).1 (nd_of (by decide))).mono ?_
 rw [H1.o]
 rintro e w1 ⟨rfl,hA⟩
 have GI:Hid (IB q {flat0 with kind:=10,name:=n,pos:=p} nil nil nil nil w1):=hA.2.blk HI.o (by omega)
 have GA:=hdd ((After2.start (q:=q) HP.o).trans hA)
 clear hA
 try clear k_0 f_0
 clear HI
 revert GI GA;intro HI HA
 go_wp2_with fail
 refine (name_any E b s1 _ HA.o.1).mono ?_
 rw [H2.o]
 rintro e w2 ⟨rfl,hA⟩
 have GI:Hid (IB q {flat0 with kind:=10,name:=n,pos:=p} nil nil nil nil w2):=hA.2.blk HI.o (by omega)
 have GA:=hdd (HA.o.trans hA)
 clear hA
 clear HI
 clear HA
 revert GI GA;intro HI HA
 have k_3:w2.cell? ⟨q,3,none⟩=some (.string ⟨#[]⟩):=jq0 HI.o 3
 have f_3:w2.frozen? ⟨q,3,none⟩=false:=jq1 HI.o 3
 go_wp2_with fail
 refine (jx3 E b s2 [58] _ (HA.o.set (i:=3) hq (.string ⟨o.toArray⟩)).1 (nd_of (by decide))).mono ?_
 rw [H3.o]
 rintro e w3 ⟨rfl,hA⟩
 have GI:Hid (IB q {flat0 with kind:=10,name:=n,pos:=p,of_:=o} nil nil nil nil w3):=hA.2.blk (IB.set_of_ HI.o o) (by omega)
 have GA:=hdd ((HA.o.set (i:=3) hq (.string ⟨o.toArray⟩)).trans hA)
 clear hA
 try clear k_3 f_3
 clear HI
 clear HA
 revert GI GA;intro HI HA
 go_wp2_with fail
 refine (name_any E b s3 _ HA.o.1).mono ?_
 rw [H4.o]
 rintro e w4 ⟨rfl,hA⟩
 have GI:Hid (IB q {flat0 with kind:=10,name:=n,pos:=p,of_:=o} nil nil nil nil w4):=hA.2.blk HI.o (by omega)
 have GA:=hdd (HA.o.trans hA)
 clear hA
 clear HI
 clear HA
 revert GI GA;intro HI HA
 have k_0:w4.cell? ⟨q,0,none⟩=some (.int .i64 10):=jq0 HI.o 0
 have f_0:w4.frozen? ⟨q,0,none⟩=false:=jq1 HI.o 0
 have k_4:w4.cell? ⟨q,4,none⟩=some (.string ⟨#[]⟩):=jq0 HI.o 4
 have f_4:w4.frozen? ⟨q,4,none⟩=false:=jq1 HI.o 4
 go_wp2_with fail
 refine (jx3 E b s4 [102,111,114] _ (HA.o.set (i:=4) hq (.string ⟨a.toArray⟩)).1 (nd_of (by decide))).mono ?_
 rw [H5.o]
 rintro e w5 ⟨rfl,hA⟩
 have GI:Hid (IB q {flat0 with kind:=10,name:=n,pos:=p,of_:=o,act:=a} nil nil nil nil w5):=hA.2.blk (IB.set_act HI.o a) (by omega)
 have GA:=hdd ((HA.o.set (i:=4) hq (.string ⟨a.toArray⟩)).trans hA)
 clear hA
 try clear k_0 f_0 k_4 f_4
 clear HI
 clear HA
 revert GI GA;intro HI HA
 go_wp2_with fail
 refine (span_any E b s5 _ HA.o.1).mono ?_
 rw [H6.o]
 rintro e w6 ⟨rfl,hA⟩
 have GI:Hid (IB q {flat0 with kind:=10,name:=n,pos:=p,of_:=o,act:=a} nil nil nil nil w6):=hA.2.blk HI.o (by omega)
 have GA:=hdd (HA.o.trans hA)
 clear hA
 clear HI
 clear HA
 revert GI GA;intro HI HA
 have k_0:w6.cell? ⟨q,0,none⟩=some (.int .i64 10):=jq0 HI.o 0
 have f_0:w6.frozen? ⟨q,0,none⟩=false:=jq1 HI.o 0
 have k_7:w6.cell? ⟨q,7,none⟩=some (.int .i64 0):=jq0 HI.o 7
 have f_7:w6.frozen? ⟨q,7,none⟩=false:=jq1 HI.o 7
 have k_8:w6.cell? ⟨q,8,none⟩=some (.bool false):=jq0 HI.o 8
 have f_8:w6.frozen? ⟨q,8,none⟩=false:=jq1 HI.o 8
 have k_9:w6.cell? ⟨q,9,none⟩=some (.string ⟨#[]⟩):=jq0 HI.o 9
 have f_9:w6.frozen? ⟨q,9,none⟩=false:=jq1 HI.o 9
 go_wp2_with fail
 refine (kz2 E b s6 _ (((HA.o.set (i:=7) hq (.int .i64 (w.days:Int))).set (i:=8) hq (.bool w.bus)).set (i:=9) hq (.string ⟨w.name.toArray⟩)).1 q {flat0 with kind:=10,name:=n,pos:=p,of_:=o,act:=a,within:=w} nil nil nil (IB.set_within HI.o w) hq rfl rfl).mono ?_
 rw [H7.o]
 rintro e w7 ⟨rfl,⟨sc,hI,hO⟩,hA⟩
 have GI:Hid (IB q {flat0 with kind:=10,name:=n,pos:=p,of_:=o,act:=a,within:=w,conds:=c.1,by_:=c.2.1,til:=c.2.2} sc nil nil nil w7):=hI
 have HRC:Hid (w7.ownsRow W.heap.size 59 2 sc c.1.length (c.1.flatMap cval)):=own_base hO (((HA.o.set (i:=7) hq (.int .i64 (w.days:Int))).set (i:=8) hq (.bool w.bus)).set (i:=9) hq (.string ⟨w.name.toArray⟩)).2.size
 have GA:=hdd ((((HA.o.set (i:=7) hq (.int .i64 (w.days:Int))).set (i:=8) hq (.bool w.bus)).set (i:=9) hq (.string ⟨w.name.toArray⟩)).trans2 hA)
 clear hI hO
 clear hA
 try clear k_0 f_0 k_7 f_7 k_8 f_8 k_9 f_9
 clear HI
 clear HA
 revert GI GA;intro HI HA
 have k_0:w7.cell? ⟨q,0,none⟩=some (.int .i64 10):=jq0 HI.o 0
 have f_0:w7.frozen? ⟨q,0,none⟩=false:=jq1 HI.o 0
 go_wp2_with fail
 refine (price_any E b s7 _ HA.o.1 q {flat0 with kind:=10,name:=n,pos:=p,of_:=o,act:=a,within:=w,conds:=c.1,by_:=c.2.1,til:=c.2.2} sc nil nil nil HI.o hq ⟨rfl,rfl,rfl,rfl⟩).mono ?_
 rw [H8.o]
 rintro e w8 ⟨rfl,hI,hA⟩
 have GI:Hid (IB q {flat0 with kind:=10,name:=n,pos:=p,of_:=o,act:=a,within:=w,conds:=c.1,by_:=c.2.1,til:=c.2.2,num:=pq.1.num,unit:=pq.1.unit,sum:=pq.1.sum,to_:=pq.1.to_,fin:=pq.2} sc nil nil nil w8):=hI
 have GRC:=hdd (jx5 HRC.o hA.2 (fun k hk _ e=>by rcases e with e|e<;>omega));clear HRC;have HRC:=GRC;clear GRC
 have GA:=hdd (HA.o.trans2 hA)
 clear hI
 clear hA
 try clear k_0 f_0
 clear HI
 clear HA
 revert GI GA;intro HI HA
 go_wp2_with fail
 refine (jx3 E b s8 [59] _ HA.o.1 (nd_of (by decide))).mono ?_
 rw [H9.o]
 rintro e w9 ⟨rfl,hA⟩
 have GI:Hid (IB q {flat0 with kind:=10,name:=n,pos:=p,of_:=o,act:=a,within:=w,conds:=c.1,by_:=c.2.1,til:=c.2.2,num:=pq.1.num,unit:=pq.1.unit,sum:=pq.1.sum,to_:=pq.1.to_,fin:=pq.2} sc nil nil nil w9):=hA.2.blk HI.o (by omega)
 have GA:=hdd (HA.o.trans hA)
 have GRC:=hdd (jx5 HRC.o hA.2 (fun k hk _ e=>by omega));clear HRC;have HRC:=GRC;clear GRC
 clear hA
 clear HI
 clear HA
 revert GI GA;intro HI HA
 go_wp2_with fail
 first|go_end0|refine bodyPost_ret (results_none rfl _ _ _) rfl ?_
 exact ⟨rfl,⟨sc,HI.o,HRC.o⟩,HA.o⟩
theorem ban_any (E:Env) (b:Nat) (s:St) (W:World) (h:PW E b s W) (q:Nat) (n:Bytes) (p:Nat) (hI:IB q {flat0 with kind:=10,name:=n,pos:=p} nil nil nil nil W) (hq:b<q):
  Calls Tryd.prog 53 #[.pointer (some ⟨b,0,none⟩),.pointer (some ⟨q,0,none⟩)] W fun e w'=>e= .returned (.tuple #[])∧(∃sc,IB q {(banR n s).1 with pos:=p} sc nil nil nil w'∧w'.ownsRow W.heap.size 59 2 sc (banR n s).1.conds.length ((banR n s).1.conds.flatMap cval))∧After2 E b q (banR n s).2 W w':=by
 obtain ⟨u1,s1,h1⟩: ∃x s',expect [[111,102]] s=(x,s'):=⟨_,_,rfl⟩
 obtain ⟨o,s2,h2⟩: ∃x s',name s1=(x,s'):=⟨_,_,rfl⟩
 obtain ⟨u3,s3,h3⟩: ∃x s',expect [[58]] s2=(x,s'):=⟨_,_,rfl⟩
 obtain ⟨a,s4,h4⟩: ∃x s',name s3=(x,s'):=⟨_,_,rfl⟩
 obtain ⟨u5,s5,h5⟩: ∃x s',expect [[102,111,114]] s4=(x,s'):=⟨_,_,rfl⟩
 obtain ⟨w,s6,h6⟩: ∃x s',rspan s5=(x,s'):=⟨_,_,rfl⟩
 obtain ⟨c,s7,h7⟩: ∃x s',circ s6=(x,s'):=⟨_,_,rfl⟩
 obtain ⟨pq,s8,h8⟩: ∃x s',rprice s7=(x,s'):=⟨_,_,rfl⟩
 obtain ⟨u9,s9,h9⟩: ∃x s',expect [[59]] s8=(x,s'):=⟨_,_,rfl⟩
 have hp:banR n s=({flat0 with kind:=10,name:=n,of_:=o,act:=a,within:=w,conds:=c.1,by_:=c.2.1,til:=c.2.2,num:=pq.1.num,unit:=pq.1.unit,sum:=pq.1.sum,to_:=pq.1.to_,fin:=pq.2},s9):=(jq3 ((jx1 h1).trans ((jq3 h2).trans ((jx1 h3).trans ((jq3 h4).trans rfl))))).trans ((jx1 h5).trans ((jq3 h6).trans ((jq3 h7).trans ((jq3 h8).trans ((jx1 h9).trans (rfl))))))
 rw [hp]
 exact ban_p E b s W h q n p hI hq u1 s1 o s2 u3 s3 a s4 u5 s5 w s6 c s7 pq s8 u9 s9 h1 h2 h3 h4 h5 h6 h7 h8 h9
theorem opt_p (E:Env) (b:Nat) (s:St) (W:World) (h:PW E b s W) (q:Nat) (n:Bytes) (p:Nat) (hI:IB q {flat0 with kind:=11,name:=n,pos:=p} nil nil nil nil W) (hq:b<q) (u1:Unit) (s1:St) (o:Bytes) (s2:St) (u3:Unit) (s3:St) (a:Bytes) (s4:St) (u5:Unit) (s5:St) (w:Span) (s6:St) (c:List Named×Bytes×Bytes) (s7:St) (u8:Unit) (s8:St) (h1:expect [[111,102]] s=(u1,s1)) (h2:name s1=(o,s2)) (h3:expect [[58]] s2=(u3,s3)) (h4:name s3=(a,s4)) (h5:expect [[119,105,116,104,105,110]] s4=(u5,s5)) (h6:rspan s5=(w,s6)) (h7:circ s6=(c,s7)) (h8:expect [[59]] s7=(u8,s8)):
  Calls Tryd.prog 53 #[.pointer (some ⟨b,0,none⟩),.pointer (some ⟨q,0,none⟩)] W fun e w'=>e= .returned (.tuple #[])∧(∃sc,IB q {flat0 with kind:=11,name:=n,pos:=p,of_:=o,act:=a,within:=w,conds:=c.1,by_:=c.2.1,til:=c.2.2} sc nil nil nil w'∧w'.ownsRow W.heap.size 59 2 sc c.1.length (c.1.flatMap cval))∧After2 E b q s8 W w':=by
 have hbW:=h.2.2.1
 have hqW:=jq7 hI
 have HP:=hdd h;clear h
 have HI:=hdd hI;clear hI
 have H1:=hdd h1;clear h1
 have H2:=hdd h2;clear h2
 have H3:=hdd h3;clear h3
 have H4:=hdd h4;clear h4
 have H5:=hdd h5;clear h5
 have H6:=hdd h6;clear h6
 have H7:=hdd h7;clear h7
 have H8:=hdd h8;clear h8
 go_enter Tryd.func53,Tryd.ntmps53
 have k_0:W.cell? ⟨q,0,none⟩=some (.int .i64 11):=jq0 HI.o 0
 have f_0:W.frozen? ⟨q,0,none⟩=false:=jq1 HI.o 0
 go_wp2_with fail
 refine (jx3 E b s [111,102] _ (After2.start (q:=q) HP.o).1 (nd_of (by decide))).mono ?_
 rw [H1.o]
 rintro e w1 ⟨rfl,hA⟩
 have GI:Hid (IB q {flat0 with kind:=11,name:=n,pos:=p} nil nil nil nil w1):=hA.2.blk HI.o (by omega)
 have GA:=hdd ((After2.start (q:=q) HP.o).trans hA)
 clear hA
 try clear k_0 f_0
 clear HI
 revert GI GA;intro HI HA
 go_wp2_with fail
 refine (name_any E b s1 _ HA.o.1).mono ?_
 rw [H2.o]
 rintro e w2 ⟨rfl,hA⟩
 have GI:Hid (IB q {flat0 with kind:=11,name:=n,pos:=p} nil nil nil nil w2):=hA.2.blk HI.o (by omega)
 have GA:=hdd (HA.o.trans hA)
 clear hA
 clear HI
 clear HA
 revert GI GA;intro HI HA
 have k_3:w2.cell? ⟨q,3,none⟩=some (.string ⟨#[]⟩):=jq0 HI.o 3
 have f_3:w2.frozen? ⟨q,3,none⟩=false:=jq1 HI.o 3
 go_wp2_with fail
 refine (jx3 E b s2 [58] _ (HA.o.set (i:=3) hq (.string ⟨o.toArray⟩)).1 (nd_of (by decide))).mono ?_
 rw [H3.o]
 rintro e w3 ⟨rfl,hA⟩
 have GI:Hid (IB q {flat0 with kind:=11,name:=n,pos:=p,of_:=o} nil nil nil nil w3):=hA.2.blk (IB.set_of_ HI.o o) (by omega)
 have GA:=hdd ((HA.o.set (i:=3) hq (.string ⟨o.toArray⟩)).trans hA)
 clear hA
 try clear k_3 f_3
 clear HI
 clear HA
 revert GI GA;intro HI HA
 go_wp2_with fail
 refine (name_any E b s3 _ HA.o.1).mono ?_
 rw [H4.o]
 rintro e w4 ⟨rfl,hA⟩
 have GI:Hid (IB q {flat0 with kind:=11,name:=n,pos:=p,of_:=o} nil nil nil nil w4):=hA.2.blk HI.o (by omega)
 have GA:=hdd (HA.o.trans hA)
 clear hA
 clear HI
 clear HA
 revert GI GA;intro HI HA
 have k_0:w4.cell? ⟨q,0,none⟩=some (.int .i64 11):=jq0 HI.o 0
 have f_0:w4.frozen? ⟨q,0,none⟩=false:=jq1 HI.o 0
 have k_4:w4.cell? ⟨q,4,none⟩=some (.string ⟨#[]⟩):=jq0 HI.o 4
 have f_4:w4.frozen? ⟨q,4,none⟩=false:=jq1 HI.o 4
 go_wp2_with fail
 refine (jx3 E b s4 [119,105,116,104,105,110] _ (HA.o.set (i:=4) hq (.string ⟨a.toArray⟩)).1 (nd_of (by decide))).mono ?_
 rw [H5.o]
 rintro e w5 ⟨rfl,hA⟩
 have GI:Hid (IB q {flat0 with kind:=11,name:=n,pos:=p,of_:=o,act:=a} nil nil nil nil w5):=hA.2.blk (IB.set_act HI.o a) (by omega)
 have GA:=hdd ((HA.o.set (i:=4) hq (.string ⟨a.toArray⟩)).trans hA)
 clear hA
 try clear k_0 f_0 k_4 f_4
 clear HI
 clear HA
 revert GI GA;intro HI HA
 go_wp2_with fail
 refine (span_any E b s5 _ HA.o.1).mono ?_
 rw [H6.o]
 rintro e w6 ⟨rfl,hA⟩
 have GI:Hid (IB q {flat0 with kind:=11,name:=n,pos:=p,of_:=o,act:=a} nil nil nil nil w6):=hA.2.blk HI.o (by omega)
 have GA:=hdd (HA.o.trans hA)
 clear hA
 clear HI
 clear HA
 revert GI GA;intro HI HA
 have k_0:w6.cell? ⟨q,0,none⟩=some (.int .i64 11):=jq0 HI.o 0
 have f_0:w6.frozen? ⟨q,0,none⟩=false:=jq1 HI.o 0
 have k_7:w6.cell? ⟨q,7,none⟩=some (.int .i64 0):=jq0 HI.o 7
 have f_7:w6.frozen? ⟨q,7,none⟩=false:=jq1 HI.o 7
 have k_8:w6.cell? ⟨q,8,none⟩=some (.bool false):=jq0 HI.o 8
 have f_8:w6.frozen? ⟨q,8,none⟩=false:=jq1 HI.o 8
 have k_9:w6.cell? ⟨q,9,none⟩=some (.string ⟨#[]⟩):=jq0 HI.o 9
 have f_9:w6.frozen? ⟨q,9,none⟩=false:=jq1 HI.o 9
 go_wp2_with fail
 refine (kz2 E b s6 _ (((HA.o.set (i:=7) hq (.int .i64 (w.days:Int))).set (i:=8) hq (.bool w.bus)).set (i:=9) hq (.string ⟨w.name.toArray⟩)).1 q {flat0 with kind:=11,name:=n,pos:=p,of_:=o,act:=a,within:=w} nil nil nil (IB.set_within HI.o w) hq rfl rfl).mono ?_
 rw [H7.o]
 rintro e w7 ⟨rfl,⟨sc,hI,hO⟩,hA⟩
 have GI:Hid (IB q {flat0 with kind:=11,name:=n,pos:=p,of_:=o,act:=a,within:=w,conds:=c.1,by_:=c.2.1,til:=c.2.2} sc nil nil nil w7):=hI
 have HRC:Hid (w7.ownsRow W.heap.size 59 2 sc c.1.length (c.1.flatMap cval)):=own_base hO (((HA.o.set (i:=7) hq (.int .i64 (w.days:Int))).set (i:=8) hq (.bool w.bus)).set (i:=9) hq (.string ⟨w.name.toArray⟩)).2.size
 have GA:=hdd ((((HA.o.set (i:=7) hq (.int .i64 (w.days:Int))).set (i:=8) hq (.bool w.bus)).set (i:=9) hq (.string ⟨w.name.toArray⟩)).trans2 hA)
 clear hI hO
 clear hA
 try clear k_0 f_0 k_7 f_7 k_8 f_8 k_9 f_9
 clear HI
 clear HA
 revert GI GA;intro HI HA
 have k_0:w7.cell? ⟨q,0,none⟩=some (.int .i64 11):=jq0 HI.o 0
 have f_0:w7.frozen? ⟨q,0,none⟩=false:=jq1 HI.o 0
 go_wp2_with fail
 refine (jx3 E b s7 [59] _ HA.o.1 (nd_of (by decide))).mono ?_
 rw [H8.o]
 rintro e w8 ⟨rfl,hA⟩
 have GI:Hid (IB q {flat0 with kind:=11,name:=n,pos:=p,of_:=o,act:=a,within:=w,conds:=c.1,by_:=c.2.1,til:=c.2.2} sc nil nil nil w8):=hA.2.blk HI.o (by omega)
 have GA:=hdd (HA.o.trans hA)
 have GRC:=hdd (jx5 HRC.o hA.2 (fun k hk _ e=>by omega));clear HRC;have HRC:=GRC;clear GRC
 clear hA
 try clear k_0 f_0
 clear HI
 clear HA
 revert GI GA;intro HI HA
 go_wp2_with fail
 first|go_end0|refine bodyPost_ret (results_none rfl _ _ _) rfl ?_
 exact ⟨rfl,⟨sc,HI.o,HRC.o⟩,HA.o⟩
theorem opt_any (E:Env) (b:Nat) (s:St) (W:World) (h:PW E b s W) (q:Nat) (n:Bytes) (p:Nat) (hI:IB q {flat0 with kind:=11,name:=n,pos:=p} nil nil nil nil W) (hq:b<q):
  Calls Tryd.prog 53 #[.pointer (some ⟨b,0,none⟩),.pointer (some ⟨q,0,none⟩)] W fun e w'=>e= .returned (.tuple #[])∧(∃sc,IB q {(optR n s).1 with pos:=p} sc nil nil nil w'∧w'.ownsRow W.heap.size 59 2 sc (optR n s).1.conds.length ((optR n s).1.conds.flatMap cval))∧After2 E b q (optR n s).2 W w':=by
 obtain ⟨u1,s1,h1⟩: ∃x s',expect [[111,102]] s=(x,s'):=⟨_,_,rfl⟩
 obtain ⟨o,s2,h2⟩: ∃x s',name s1=(x,s'):=⟨_,_,rfl⟩
 obtain ⟨u3,s3,h3⟩: ∃x s',expect [[58]] s2=(x,s'):=⟨_,_,rfl⟩
 obtain ⟨a,s4,h4⟩: ∃x s',name s3=(x,s'):=⟨_,_,rfl⟩
 obtain ⟨u5,s5,h5⟩: ∃x s',expect [[119,105,116,104,105,110]] s4=(x,s'):=⟨_,_,rfl⟩
 obtain ⟨w,s6,h6⟩: ∃x s',rspan s5=(x,s'):=⟨_,_,rfl⟩
 obtain ⟨c,s7,h7⟩: ∃x s',circ s6=(x,s'):=⟨_,_,rfl⟩
 obtain ⟨u8,s8,h8⟩: ∃x s',expect [[59]] s7=(x,s'):=⟨_,_,rfl⟩
 have hp:optR n s=({flat0 with kind:=11,name:=n,of_:=o,act:=a,within:=w,conds:=c.1,by_:=c.2.1,til:=c.2.2},s8):=(jq3 ((jx1 h1).trans ((jq3 h2).trans ((jx1 h3).trans ((jq3 h4).trans rfl))))).trans ((jx1 h5).trans ((jq3 h6).trans ((jq3 h7).trans ((jx1 h8).trans (rfl)))))
 rw [hp]
 exact opt_p E b s W h q n p hI hq u1 s1 o s2 u3 s3 a s4 u5 s5 w s6 c s7 u8 s8 h1 h2 h3 h4 h5 h6 h7 h8
theorem wat_p (E:Env) (b:Nat) (s:St) (W:World) (h:PW E b s W) (q:Nat) (n:Bytes) (p:Nat) (hI:IB q {flat0 with kind:=12,name:=n,pos:=p} nil nil nil nil W) (hq:b<q) (u1:Unit) (s1:St) (a:Bytes) (s2:St) (u3:Unit) (s3:St) (w:Span) (s4:St) (c:List Named×Bytes×Bytes) (s5:St) (u6:Unit) (s6:St) (h1:expect [[58]] s=(u1,s1)) (h2:name s1=(a,s2)) (h3:expect [[119,105,116,104,105,110]] s2=(u3,s3)) (h4:rspan s3=(w,s4)) (h5:circ s4=(c,s5)) (h6:expect [[59]] s5=(u6,s6)):
  Calls Tryd.prog 53 #[.pointer (some ⟨b,0,none⟩),.pointer (some ⟨q,0,none⟩)] W fun e w'=>e= .returned (.tuple #[])∧(∃sc,IB q {flat0 with kind:=12,name:=n,pos:=p,act:=a,within:=w,conds:=c.1,by_:=c.2.1,til:=c.2.2} sc nil nil nil w'∧w'.ownsRow W.heap.size 59 2 sc c.1.length (c.1.flatMap cval))∧After2 E b q s6 W w':=by
 have hbW:=h.2.2.1
 have hqW:=jq7 hI
 have HP:=hdd h;clear h
 have HI:=hdd hI;clear hI
 have H1:=hdd h1;clear h1
 have H2:=hdd h2;clear h2
 have H3:=hdd h3;clear h3
 have H4:=hdd h4;clear h4
 have H5:=hdd h5;clear h5
 have H6:=hdd h6;clear h6
 go_enter Tryd.func53,Tryd.ntmps53
 have k_0:W.cell? ⟨q,0,none⟩=some (.int .i64 12):=jq0 HI.o 0
 have f_0:W.frozen? ⟨q,0,none⟩=false:=jq1 HI.o 0
 go_wp2_with fail
 refine (jx3 E b s [58] _ (After2.start (q:=q) HP.o).1 (nd_of (by decide))).mono ?_
 rw [H1.o]
 rintro e w1 ⟨rfl,hA⟩
 have GI:Hid (IB q {flat0 with kind:=12,name:=n,pos:=p} nil nil nil nil w1):=hA.2.blk HI.o (by omega)
 have GA:=hdd ((After2.start (q:=q) HP.o).trans hA)
 clear hA
 try clear k_0 f_0
 clear HI
 revert GI GA;intro HI HA
 go_wp2_with fail
 refine (name_any E b s1 _ HA.o.1).mono ?_
 rw [H2.o]
 rintro e w2 ⟨rfl,hA⟩
 have GI:Hid (IB q {flat0 with kind:=12,name:=n,pos:=p} nil nil nil nil w2):=hA.2.blk HI.o (by omega)
 have GA:=hdd (HA.o.trans hA)
 clear hA
 clear HI
 clear HA
 revert GI GA;intro HI HA
 have k_0:w2.cell? ⟨q,0,none⟩=some (.int .i64 12):=jq0 HI.o 0
 have f_0:w2.frozen? ⟨q,0,none⟩=false:=jq1 HI.o 0
 have k_4:w2.cell? ⟨q,4,none⟩=some (.string ⟨#[]⟩):=jq0 HI.o 4
 have f_4:w2.frozen? ⟨q,4,none⟩=false:=jq1 HI.o 4
 go_wp2_with fail
 refine (jx3 E b s2 [119,105,116,104,105,110] _ (HA.o.set (i:=4) hq (.string ⟨a.toArray⟩)).1 (nd_of (by decide))).mono ?_
 rw [H3.o]
 rintro e w3 ⟨rfl,hA⟩
 have GI:Hid (IB q {flat0 with kind:=12,name:=n,pos:=p,act:=a} nil nil nil nil w3):=hA.2.blk (IB.set_act HI.o a) (by omega)
 have GA:=hdd ((HA.o.set (i:=4) hq (.string ⟨a.toArray⟩)).trans hA)
 clear hA
 try clear k_0 f_0 k_4 f_4
 clear HI
 clear HA
 revert GI GA;intro HI HA
 go_wp2_with fail
 refine (span_any E b s3 _ HA.o.1).mono ?_
 rw [H4.o]
 rintro e w4 ⟨rfl,hA⟩
 have GI:Hid (IB q {flat0 with kind:=12,name:=n,pos:=p,act:=a} nil nil nil nil w4):=hA.2.blk HI.o (by omega)
 have GA:=hdd (HA.o.trans hA)
 clear hA
 clear HI
 clear HA
 revert GI GA;intro HI HA
 have k_0:w4.cell? ⟨q,0,none⟩=some (.int .i64 12):=jq0 HI.o 0
 have f_0:w4.frozen? ⟨q,0,none⟩=false:=jq1 HI.o 0
 have k_7:w4.cell? ⟨q,7,none⟩=some (.int .i64 0):=jq0 HI.o 7
 have f_7:w4.frozen? ⟨q,7,none⟩=false:=jq1 HI.o 7
 have k_8:w4.cell? ⟨q,8,none⟩=some (.bool false):=jq0 HI.o 8
 have f_8:w4.frozen? ⟨q,8,none⟩=false:=jq1 HI.o 8
 have k_9:w4.cell? ⟨q,9,none⟩=some (.string ⟨#[]⟩):=jq0 HI.o 9
 have f_9:w4.frozen? ⟨q,9,none⟩=false:=jq1 HI.o 9
 go_wp2_with fail
 refine (kz2 E b s4 _ (((HA.o.set (i:=7) hq (.int .i64 (w.days:Int))).set (i:=8) hq (.bool w.bus)).set (i:=9) hq (.string ⟨w.name.toArray⟩)).1 q {flat0 with kind:=12,name:=n,pos:=p,act:=a,within:=w} nil nil nil (IB.set_within HI.o w) hq rfl rfl).mono ?_
 rw [H5.o]
 rintro e w5 ⟨rfl,⟨sc,hI,hO⟩,hA⟩
 have GI:Hid (IB q {flat0 with kind:=12,name:=n,pos:=p,act:=a,within:=w,conds:=c.1,by_:=c.2.1,til:=c.2.2} sc nil nil nil w5):=hI
 have HRC:Hid (w5.ownsRow W.heap.size 59 2 sc c.1.length (c.1.flatMap cval)):=own_base hO (((HA.o.set (i:=7) hq (.int .i64 (w.days:Int))).set (i:=8) hq (.bool w.bus)).set (i:=9) hq (.string ⟨w.name.toArray⟩)).2.size
 have GA:=hdd ((((HA.o.set (i:=7) hq (.int .i64 (w.days:Int))).set (i:=8) hq (.bool w.bus)).set (i:=9) hq (.string ⟨w.name.toArray⟩)).trans2 hA)
 clear hI hO
 clear hA
 try clear k_0 f_0 k_7 f_7 k_8 f_8 k_9 f_9
 clear HI
 clear HA
 revert GI GA;intro HI HA
 have k_0:w5.cell? ⟨q,0,none⟩=some (.int .i64 12):=jq0 HI.o 0
 have f_0:w5.frozen? ⟨q,0,none⟩=false:=jq1 HI.o 0
 go_wp2_with fail
 refine (jx3 E b s5 [59] _ HA.o.1 (nd_of (by decide))).mono ?_
 rw [H6.o]
 rintro e w6 ⟨rfl,hA⟩
 have GI:Hid (IB q {flat0 with kind:=12,name:=n,pos:=p,act:=a,within:=w,conds:=c.1,by_:=c.2.1,til:=c.2.2} sc nil nil nil w6):=hA.2.blk HI.o (by omega)
 have GA:=hdd (HA.o.trans hA)
 have GRC:=hdd (jx5 HRC.o hA.2 (fun k hk _ e=>by omega));clear HRC;have HRC:=GRC;clear GRC
 clear hA
 try clear k_0 f_0
 clear HI
 clear HA
 revert GI GA;intro HI HA
 go_wp2_with fail
 first|go_end0|refine bodyPost_ret (results_none rfl _ _ _) rfl ?_
 exact ⟨rfl,⟨sc,HI.o,HRC.o⟩,HA.o⟩
theorem wat_any (E:Env) (b:Nat) (s:St) (W:World) (h:PW E b s W) (q:Nat) (n:Bytes) (p:Nat) (hI:IB q {flat0 with kind:=12,name:=n,pos:=p} nil nil nil nil W) (hq:b<q):
  Calls Tryd.prog 53 #[.pointer (some ⟨b,0,none⟩),.pointer (some ⟨q,0,none⟩)] W fun e w'=>e= .returned (.tuple #[])∧(∃sc,IB q {(watR n s).1 with pos:=p} sc nil nil nil w'∧w'.ownsRow W.heap.size 59 2 sc (watR n s).1.conds.length ((watR n s).1.conds.flatMap cval))∧After2 E b q (watR n s).2 W w':=by
 obtain ⟨u1,s1,h1⟩: ∃x s',expect [[58]] s=(x,s'):=⟨_,_,rfl⟩
 obtain ⟨a,s2,h2⟩: ∃x s',name s1=(x,s'):=⟨_,_,rfl⟩
 obtain ⟨u3,s3,h3⟩: ∃x s',expect [[119,105,116,104,105,110]] s2=(x,s'):=⟨_,_,rfl⟩
 obtain ⟨w,s4,h4⟩: ∃x s',rspan s3=(x,s'):=⟨_,_,rfl⟩
 obtain ⟨c,s5,h5⟩: ∃x s',circ s4=(x,s'):=⟨_,_,rfl⟩
 obtain ⟨u6,s6,h6⟩: ∃x s',expect [[59]] s5=(x,s'):=⟨_,_,rfl⟩
 have hp:watR n s=({flat0 with kind:=12,name:=n,act:=a,within:=w,conds:=c.1,by_:=c.2.1,til:=c.2.2},s6):=(jx1 h1).trans ((jq3 h2).trans ((jx1 h3).trans ((jq3 h4).trans ((jq3 h5).trans ((jx1 h6).trans (rfl))))))
 rw [hp]
 exact wat_p E b s W h q n p hI hq u1 s1 a s2 u3 s3 w s4 c s5 u6 s6 h1 h2 h3 h4 h5 h6
theorem duty_p11 (E:Env) (b:Nat) (s:St) (W:World) (h:PW E b s W) (q:Nat) (n:Bytes) (p:Nat) (hI:IB q {flat0 with kind:=9,name:=n,pos:=p} nil nil nil nil W) (hq:b<q) (u1:Unit) (s1:St) (o:Bytes) (s2:St) (u3:Unit) (s3:St) (a:Bytes) (s4:St) (t:Nat) (s6:St) (u7:Unit) (s7:St) (u8:Unit) (s8:St) (w:Span) (s9:St) (s10:St) (g:Span) (s11:St) (c:List Named×Bytes×Bytes) (s12:St) (pq:Price×Bool) (s13:St) (u14:Unit) (s14:St) (h1:expect [[111,102]] s=(u1,s1)) (h2:name s1=(o,s2)) (h3:expect [[58]] s2=(u3,s3)) (h4:name s3=(a,s4)) (h5:isK 2 s4=true) (h6:number s4=(t,s6)) (h7:expect [[116,105,109,101,115]] s6=(u7,s7)) (h8:expect [[119,105,116,104,105,110]] s7=(u8,s8)) (h9:rspan s8=(w,s9)) (h10:acc [103,114,97,99,101] s9=(true,s10)) (h11:rspan s10=(g,s11)) (h12:circ s11=(c,s12)) (h13:rprice s12=(pq,s13)) (h14:expect [[59]] s13=(u14,s14)):
  Calls Tryd.prog 53 #[.pointer (some ⟨b,0,none⟩),.pointer (some ⟨q,0,none⟩)] W fun e w'=>e= .returned (.tuple #[])∧(∃sc,IB q {flat0 with kind:=9,name:=n,pos:=p,of_:=o,act:=a,times:=t,within:=w,grace:=g,conds:=c.1,by_:=c.2.1,til:=c.2.2,num:=pq.1.num,unit:=pq.1.unit,sum:=pq.1.sum,to_:=pq.1.to_,fin:=pq.2} sc nil nil nil w'∧w'.ownsRow W.heap.size 59 2 sc c.1.length (c.1.flatMap cval))∧After2 E b q s14 W w':=by
 have hbW:=h.2.2.1
 have hqW:=jq7 hI
 have HP:=hdd h;clear h
 have HI:=hdd hI;clear hI
 have H1:=hdd h1;clear h1
 have H2:=hdd h2;clear h2
 have H3:=hdd h3;clear h3
 have H4:=hdd h4;clear h4
 have H5:=hdd h5;clear h5
 have H6:=hdd h6;clear h6
 have H7:=hdd h7;clear h7
 have H8:=hdd h8;clear h8
 have H9:=hdd h9;clear h9
 have H10:=hdd h10;clear h10
 have H11:=hdd h11;clear h11
 have H12:=hdd h12;clear h12
 have H13:=hdd h13;clear h13
 have H14:=hdd h14;clear h14
 go_enter Tryd.func53,Tryd.ntmps53
 have k_0:W.cell? ⟨q,0,none⟩=some (.int .i64 9):=jq0 HI.o 0
 have f_0:W.frozen? ⟨q,0,none⟩=false:=jq1 HI.o 0
 go_wp2_with fail
 refine (jx3 E b s [111,102] _ (After2.start (q:=q) HP.o).1 (nd_of (by decide))).mono ?_
 rw [H1.o]
 rintro e w1 ⟨rfl,hA⟩
 have GI:Hid (IB q {flat0 with kind:=9,name:=n,pos:=p} nil nil nil nil w1):=hA.2.blk HI.o (by omega)
 have GA:=hdd ((After2.start (q:=q) HP.o).trans hA)
 clear hA
 try clear k_0 f_0
 clear HI
 revert GI GA;intro HI HA
 go_wp2_with fail
 refine (name_any E b s1 _ HA.o.1).mono ?_
 rw [H2.o]
 rintro e w2 ⟨rfl,hA⟩
 have GI:Hid (IB q {flat0 with kind:=9,name:=n,pos:=p} nil nil nil nil w2):=hA.2.blk HI.o (by omega)
 have GA:=hdd (HA.o.trans hA)
 clear hA
 clear HI
 clear HA
 revert GI GA;intro HI HA
 have k_3:w2.cell? ⟨q,3,none⟩=some (.string ⟨#[]⟩):=jq0 HI.o 3
 have f_3:w2.frozen? ⟨q,3,none⟩=false:=jq1 HI.o 3
 go_wp2_with fail
 refine (jx3 E b s2 [58] _ (HA.o.set (i:=3) hq (.string ⟨o.toArray⟩)).1 (nd_of (by decide))).mono ?_
 rw [H3.o]
 rintro e w3 ⟨rfl,hA⟩
 have GI:Hid (IB q {flat0 with kind:=9,name:=n,pos:=p,of_:=o} nil nil nil nil w3):=hA.2.blk (IB.set_of_ HI.o o) (by omega)
 have GA:=hdd ((HA.o.set (i:=3) hq (.string ⟨o.toArray⟩)).trans hA)
 clear hA
 try clear k_3 f_3
 clear HI
 clear HA
 revert GI GA;intro HI HA
 go_wp2_with fail
 refine (name_any E b s3 _ HA.o.1).mono ?_
 rw [H4.o]
 rintro e w4 ⟨rfl,hA⟩
 have GI:Hid (IB q {flat0 with kind:=9,name:=n,pos:=p,of_:=o} nil nil nil nil w4):=hA.2.blk HI.o (by omega)
 have GA:=hdd (HA.o.trans hA)
 clear hA
 clear HI
 clear HA
 revert GI GA;intro HI HA
 have k_0:w4.cell? ⟨q,0,none⟩=some (.int .i64 9):=jq0 HI.o 0
 have f_0:w4.frozen? ⟨q,0,none⟩=false:=jq1 HI.o 0
 have k_4:w4.cell? ⟨q,4,none⟩=some (.string ⟨#[]⟩):=jq0 HI.o 4
 have f_4:w4.frozen? ⟨q,4,none⟩=false:=jq1 HI.o 4
 have k_6:w4.cell? ⟨q,6,none⟩=some (.int .i64 0):=jq0 HI.o 6
 have f_6:w4.frozen? ⟨q,6,none⟩=false:=jq1 HI.o 6
 go_wp2_with fail
 refine (is_any E b s4 2 _ ((HA.o.set (i:=4) hq (.string ⟨a.toArray⟩)).set (i:=6) hq (.int .i64 (1:Int))).1).mono ?_
 rw [H5.o]
 rintro e w5 ⟨rfl,m5,rfl⟩
 go_wp2_with fail
 refine (number_any E b s4 _ (((HA.o.set (i:=4) hq (.string ⟨a.toArray⟩)).set (i:=6) hq (.int .i64 (1:Int))).drewN m5).1).mono ?_
 rw [H6.o]
 rintro e w6 ⟨rfl,hA⟩
 have GI:Hid (IB q {flat0 with kind:=9,name:=n,pos:=p,of_:=o,act:=a,times:=1} nil nil nil nil w6):=hA.2.blk (jx2 (IB.set_times (IB.set_act HI.o a) 1) m5) (by omega)
 have GA:=hdd ((((HA.o.set (i:=4) hq (.string ⟨a.toArray⟩)).set (i:=6) hq (.int .i64 (1:Int))).drewN m5).trans hA)
 clear hA
 try clear k_0 f_0 k_4 f_4 k_6 f_6
 clear HI
 clear HA
 revert GI GA;intro HI HA
 have k_6:w6.cell? ⟨q,6,none⟩=some (.int .i64 1):=jq0 HI.o 6
 have f_6:w6.frozen? ⟨q,6,none⟩=false:=jq1 HI.o 6
 go_wp2_with fail
 refine (jx3 E b s6 [116,105,109,101,115] _ (HA.o.set (i:=6) hq (.int .i64 (t:Int))).1 (nd_of (by decide))).mono ?_
 rw [H7.o]
 rintro e w7 ⟨rfl,hA⟩
 have GI:Hid (IB q {flat0 with kind:=9,name:=n,pos:=p,of_:=o,act:=a,times:=t} nil nil nil nil w7):=hA.2.blk (IB.set_times HI.o t) (by omega)
 have GA:=hdd ((HA.o.set (i:=6) hq (.int .i64 (t:Int))).trans hA)
 clear hA
 try clear k_6 f_6
 clear HI
 clear HA
 revert GI GA;intro HI HA
 have k_0:w7.cell? ⟨q,0,none⟩=some (.int .i64 9):=jq0 HI.o 0
 have f_0:w7.frozen? ⟨q,0,none⟩=false:=jq1 HI.o 0
 go_wp2_with fail
 refine (jx3 E b s7 [119,105,116,104,105,110] _ HA.o.1 (nd_of (by decide))).mono ?_
 rw [H8.o]
 rintro e w8 ⟨rfl,hA⟩
 have GI:Hid (IB q {flat0 with kind:=9,name:=n,pos:=p,of_:=o,act:=a,times:=t} nil nil nil nil w8):=hA.2.blk HI.o (by omega)
 have GA:=hdd (HA.o.trans hA)
 clear hA
 try clear k_0 f_0
 clear HI
 clear HA
 revert GI GA;intro HI HA
 go_wp2_with fail
 refine (span_any E b s8 _ HA.o.1).mono ?_
 rw [H9.o]
 rintro e w9 ⟨rfl,hA⟩
 have GI:Hid (IB q {flat0 with kind:=9,name:=n,pos:=p,of_:=o,act:=a,times:=t} nil nil nil nil w9):=hA.2.blk HI.o (by omega)
 have GA:=hdd (HA.o.trans hA)
 clear hA
 clear HI
 clear HA
 revert GI GA;intro HI HA
 have k_0:w9.cell? ⟨q,0,none⟩=some (.int .i64 9):=jq0 HI.o 0
 have f_0:w9.frozen? ⟨q,0,none⟩=false:=jq1 HI.o 0
 have k_7:w9.cell? ⟨q,7,none⟩=some (.int .i64 0):=jq0 HI.o 7
 have f_7:w9.frozen? ⟨q,7,none⟩=false:=jq1 HI.o 7
 have k_8:w9.cell? ⟨q,8,none⟩=some (.bool false):=jq0 HI.o 8
 have f_8:w9.frozen? ⟨q,8,none⟩=false:=jq1 HI.o 8
 have k_9:w9.cell? ⟨q,9,none⟩=some (.string ⟨#[]⟩):=jq0 HI.o 9
 have f_9:w9.frozen? ⟨q,9,none⟩=false:=jq1 HI.o 9
 go_wp2_with fail
 refine (jx8 E b s9 [103,114,97,99,101] _ (((HA.o.set (i:=7) hq (.int .i64 (w.days:Int))).set (i:=8) hq (.bool w.bus)).set (i:=9) hq (.string ⟨w.name.toArray⟩)).1 (nd_of (by decide))).mono ?_
 rw [H10.o]
 rintro e w10 ⟨rfl,hA⟩
 have GI:Hid (IB q {flat0 with kind:=9,name:=n,pos:=p,of_:=o,act:=a,times:=t,within:=w} nil nil nil nil w10):=hA.2.blk (IB.set_within HI.o w) (by omega)
 have GA:=hdd ((((HA.o.set (i:=7) hq (.int .i64 (w.days:Int))).set (i:=8) hq (.bool w.bus)).set (i:=9) hq (.string ⟨w.name.toArray⟩)).trans hA)
 clear hA
 try clear k_0 f_0 k_7 f_7 k_8 f_8 k_9 f_9
 clear HI
 clear HA
 revert GI GA;intro HI HA
 go_wp2_with fail
 refine (span_any E b s10 _ HA.o.1).mono ?_
 rw [H11.o]
 rintro e w11 ⟨rfl,hA⟩
 have GI:Hid (IB q {flat0 with kind:=9,name:=n,pos:=p,of_:=o,act:=a,times:=t,within:=w} nil nil nil nil w11):=hA.2.blk HI.o (by omega)
 have GA:=hdd (HA.o.trans hA)
 clear hA
 clear HI
 clear HA
 revert GI GA;intro HI HA
 have k_10:w11.cell? ⟨q,10,none⟩=some (.int .i64 0):=jq0 HI.o 10
 have f_10:w11.frozen? ⟨q,10,none⟩=false:=jq1 HI.o 10
 have k_11:w11.cell? ⟨q,11,none⟩=some (.bool false):=jq0 HI.o 11
 have f_11:w11.frozen? ⟨q,11,none⟩=false:=jq1 HI.o 11
 have k_12:w11.cell? ⟨q,12,none⟩=some (.string ⟨#[]⟩):=jq0 HI.o 12
 have f_12:w11.frozen? ⟨q,12,none⟩=false:=jq1 HI.o 12
 go_wp2_with fail
 refine (kz2 E b s11 _ (((HA.o.set (i:=10) hq (.int .i64 (g.days:Int))).set (i:=11) hq (.bool g.bus)).set (i:=12) hq (.string ⟨g.name.toArray⟩)).1 q {flat0 with kind:=9,name:=n,pos:=p,of_:=o,act:=a,times:=t,within:=w,grace:=g} nil nil nil (IB.set_grace HI.o g) hq rfl rfl).mono ?_
 rw [H12.o]
 rintro e w12 ⟨rfl,⟨sc,hI,hO⟩,hA⟩
 have GI:Hid (IB q {flat0 with kind:=9,name:=n,pos:=p,of_:=o,act:=a,times:=t,within:=w,grace:=g,conds:=c.1,by_:=c.2.1,til:=c.2.2} sc nil nil nil w12):=hI
 have HRC:Hid (w12.ownsRow W.heap.size 59 2 sc c.1.length (c.1.flatMap cval)):=own_base hO (((HA.o.set (i:=10) hq (.int .i64 (g.days:Int))).set (i:=11) hq (.bool g.bus)).set (i:=12) hq (.string ⟨g.name.toArray⟩)).2.size
 have GA:=hdd ((((HA.o.set (i:=10) hq (.int .i64 (g.days:Int))).set (i:=11) hq (.bool g.bus)).set (i:=12) hq (.string ⟨g.name.toArray⟩)).trans2 hA)
 clear hI hO
 clear hA
 try clear k_10 f_10 k_11 f_11 k_12 f_12
 clear HI
 clear HA
 revert GI GA;intro HI HA
 have k_0:w12.cell? ⟨q,0,none⟩=some (.int .i64 9):=jq0 HI.o 0
 have f_0:w12.frozen? ⟨q,0,none⟩=false:=jq1 HI.o 0
 go_wp2_with fail
 refine (price_any E b s12 _ HA.o.1 q {flat0 with kind:=9,name:=n,pos:=p,of_:=o,act:=a,times:=t,within:=w,grace:=g,conds:=c.1,by_:=c.2.1,til:=c.2.2} sc nil nil nil HI.o hq ⟨rfl,rfl,rfl,rfl⟩).mono ?_
 rw [H13.o]
 rintro e w13 ⟨rfl,hI,hA⟩
 have GI:Hid (IB q {flat0 with kind:=9,name:=n,pos:=p,of_:=o,act:=a,times:=t,within:=w,grace:=g,conds:=c.1,by_:=c.2.1,til:=c.2.2,num:=pq.1.num,unit:=pq.1.unit,sum:=pq.1.sum,to_:=pq.1.to_,fin:=pq.2} sc nil nil nil w13):=hI
 have GRC:=hdd (jx5 HRC.o hA.2 (fun k hk _ e=>by rcases e with e|e<;>omega));clear HRC;have HRC:=GRC;clear GRC
 have GA:=hdd (HA.o.trans2 hA)
 clear hI
 clear hA
 try clear k_0 f_0
 clear HI
 clear HA
 revert GI GA;intro HI HA
 go_wp2_with fail
 refine (jx3 E b s13 [59] _ HA.o.1 (nd_of (by decide))).mono ?_
 rw [H14.o]
 rintro e w14 ⟨rfl,hA⟩
 have GI:Hid (IB q {flat0 with kind:=9,name:=n,pos:=p,of_:=o,act:=a,times:=t,within:=w,grace:=g,conds:=c.1,by_:=c.2.1,til:=c.2.2,num:=pq.1.num,unit:=pq.1.unit,sum:=pq.1.sum,to_:=pq.1.to_,fin:=pq.2} sc nil nil nil w14):=hA.2.blk HI.o (by omega)
 have GA:=hdd (HA.o.trans hA)
 have GRC:=hdd (jx5 HRC.o hA.2 (fun k hk _ e=>by omega));clear HRC;have HRC:=GRC;clear GRC
 clear hA
 clear HI
 clear HA
 revert GI GA;intro HI HA
 go_wp2_with fail
 first|go_end0|refine bodyPost_ret (results_none rfl _ _ _) rfl ?_
 exact ⟨rfl,⟨sc,HI.o,HRC.o⟩,HA.o⟩
theorem duty_p10 (E:Env) (b:Nat) (s:St) (W:World) (h:PW E b s W) (q:Nat) (n:Bytes) (p:Nat) (hI:IB q {flat0 with kind:=9,name:=n,pos:=p} nil nil nil nil W) (hq:b<q) (u1:Unit) (s1:St) (o:Bytes) (s2:St) (u3:Unit) (s3:St) (a:Bytes) (s4:St) (t:Nat) (s6:St) (u7:Unit) (s7:St) (u8:Unit) (s8:St) (w:Span) (s9:St) (c:List Named×Bytes×Bytes) (s11:St) (pq:Price×Bool) (s12:St) (u13:Unit) (s13:St) (h1:expect [[111,102]] s=(u1,s1)) (h2:name s1=(o,s2)) (h3:expect [[58]] s2=(u3,s3)) (h4:name s3=(a,s4)) (h5:isK 2 s4=true) (h6:number s4=(t,s6)) (h7:expect [[116,105,109,101,115]] s6=(u7,s7)) (h8:expect [[119,105,116,104,105,110]] s7=(u8,s8)) (h9:rspan s8=(w,s9)) (h10:acc [103,114,97,99,101] s9=(false,s9)) (h11:circ s9=(c,s11)) (h12:rprice s11=(pq,s12)) (h13:expect [[59]] s12=(u13,s13)):
  Calls Tryd.prog 53 #[.pointer (some ⟨b,0,none⟩),.pointer (some ⟨q,0,none⟩)] W fun e w'=>e= .returned (.tuple #[])∧(∃sc,IB q {flat0 with kind:=9,name:=n,pos:=p,of_:=o,act:=a,times:=t,within:=w,conds:=c.1,by_:=c.2.1,til:=c.2.2,num:=pq.1.num,unit:=pq.1.unit,sum:=pq.1.sum,to_:=pq.1.to_,fin:=pq.2} sc nil nil nil w'∧w'.ownsRow W.heap.size 59 2 sc c.1.length (c.1.flatMap cval))∧After2 E b q s13 W w':=by
 have hbW:=h.2.2.1
 have hqW:=jq7 hI
 have HP:=hdd h;clear h
 have HI:=hdd hI;clear hI
 have H1:=hdd h1;clear h1
 have H2:=hdd h2;clear h2
 have H3:=hdd h3;clear h3
 have H4:=hdd h4;clear h4
 have H5:=hdd h5;clear h5
 have H6:=hdd h6;clear h6
 have H7:=hdd h7;clear h7
 have H8:=hdd h8;clear h8
 have H9:=hdd h9;clear h9
 have H10:=hdd h10;clear h10
 have H11:=hdd h11;clear h11
 have H12:=hdd h12;clear h12
 have H13:=hdd h13;clear h13
 go_enter Tryd.func53,Tryd.ntmps53
 have k_0:W.cell? ⟨q,0,none⟩=some (.int .i64 9):=jq0 HI.o 0
 have f_0:W.frozen? ⟨q,0,none⟩=false:=jq1 HI.o 0
 go_wp2_with fail
 refine (jx3 E b s [111,102] _ (After2.start (q:=q) HP.o).1 (nd_of (by decide))).mono ?_
 rw [H1.o]
 rintro e w1 ⟨rfl,hA⟩
 have GI:Hid (IB q {flat0 with kind:=9,name:=n,pos:=p} nil nil nil nil w1):=hA.2.blk HI.o (by omega)
 have GA:=hdd ((After2.start (q:=q) HP.o).trans hA)
 clear hA
 try clear k_0 f_0
 clear HI
 revert GI GA;intro HI HA
 go_wp2_with fail
 refine (name_any E b s1 _ HA.o.1).mono ?_
 rw [H2.o]
 rintro e w2 ⟨rfl,hA⟩
 have GI:Hid (IB q {flat0 with kind:=9,name:=n,pos:=p} nil nil nil nil w2):=hA.2.blk HI.o (by omega)
 have GA:=hdd (HA.o.trans hA)
 clear hA
 clear HI
 clear HA
 revert GI GA;intro HI HA
 have k_3:w2.cell? ⟨q,3,none⟩=some (.string ⟨#[]⟩):=jq0 HI.o 3
 have f_3:w2.frozen? ⟨q,3,none⟩=false:=jq1 HI.o 3
 go_wp2_with fail
 refine (jx3 E b s2 [58] _ (HA.o.set (i:=3) hq (.string ⟨o.toArray⟩)).1 (nd_of (by decide))).mono ?_
 rw [H3.o]
 rintro e w3 ⟨rfl,hA⟩
 have GI:Hid (IB q {flat0 with kind:=9,name:=n,pos:=p,of_:=o} nil nil nil nil w3):=hA.2.blk (IB.set_of_ HI.o o) (by omega)
 have GA:=hdd ((HA.o.set (i:=3) hq (.string ⟨o.toArray⟩)).trans hA)
 clear hA
 try clear k_3 f_3
 clear HI
 clear HA
 revert GI GA;intro HI HA
 go_wp2_with fail
 refine (name_any E b s3 _ HA.o.1).mono ?_
 rw [H4.o]
 rintro e w4 ⟨rfl,hA⟩
 have GI:Hid (IB q {flat0 with kind:=9,name:=n,pos:=p,of_:=o} nil nil nil nil w4):=hA.2.blk HI.o (by omega)
 have GA:=hdd (HA.o.trans hA)
 clear hA
 clear HI
 clear HA
 revert GI GA;intro HI HA
 have k_0:w4.cell? ⟨q,0,none⟩=some (.int .i64 9):=jq0 HI.o 0
 have f_0:w4.frozen? ⟨q,0,none⟩=false:=jq1 HI.o 0
 have k_4:w4.cell? ⟨q,4,none⟩=some (.string ⟨#[]⟩):=jq0 HI.o 4
 have f_4:w4.frozen? ⟨q,4,none⟩=false:=jq1 HI.o 4
 have k_6:w4.cell? ⟨q,6,none⟩=some (.int .i64 0):=jq0 HI.o 6
 have f_6:w4.frozen? ⟨q,6,none⟩=false:=jq1 HI.o 6
 go_wp2_with fail
 refine (is_any E b s4 2 _ ((HA.o.set (i:=4) hq (.string ⟨a.toArray⟩)).set (i:=6) hq (.int .i64 (1:Int))).1).mono ?_
 rw [H5.o]
 rintro e w5 ⟨rfl,m5,rfl⟩
 go_wp2_with fail
 refine (number_any E b s4 _ (((HA.o.set (i:=4) hq (.string ⟨a.toArray⟩)).set (i:=6) hq (.int .i64 (1:Int))).drewN m5).1).mono ?_
 rw [H6.o]
 rintro e w6 ⟨rfl,hA⟩
 have GI:Hid (IB q {flat0 with kind:=9,name:=n,pos:=p,of_:=o,act:=a,times:=1} nil nil nil nil w6):=hA.2.blk (jx2 (IB.set_times (IB.set_act HI.o a) 1) m5) (by omega)
 have GA:=hdd ((((HA.o.set (i:=4) hq (.string ⟨a.toArray⟩)).set (i:=6) hq (.int .i64 (1:Int))).drewN m5).trans hA)
 clear hA
 try clear k_0 f_0 k_4 f_4 k_6 f_6
 clear HI
 clear HA
 revert GI GA;intro HI HA
 have k_6:w6.cell? ⟨q,6,none⟩=some (.int .i64 1):=jq0 HI.o 6
 have f_6:w6.frozen? ⟨q,6,none⟩=false:=jq1 HI.o 6
 go_wp2_with fail
 refine (jx3 E b s6 [116,105,109,101,115] _ (HA.o.set (i:=6) hq (.int .i64 (t:Int))).1 (nd_of (by decide))).mono ?_
 rw [H7.o]
 rintro e w7 ⟨rfl,hA⟩
 have GI:Hid (IB q {flat0 with kind:=9,name:=n,pos:=p,of_:=o,act:=a,times:=t} nil nil nil nil w7):=hA.2.blk (IB.set_times HI.o t) (by omega)
 have GA:=hdd ((HA.o.set (i:=6) hq (.int .i64 (t:Int))).trans hA)
 clear hA
 try clear k_6 f_6
 clear HI
 clear HA
 revert GI GA;intro HI HA
 have k_0:w7.cell? ⟨q,0,none⟩=some (.int .i64 9):=jq0 HI.o 0
 have f_0:w7.frozen? ⟨q,0,none⟩=false:=jq1 HI.o 0
 go_wp2_with fail
 refine (jx3 E b s7 [119,105,116,104,105,110] _ HA.o.1 (nd_of (by decide))).mono ?_
 rw [H8.o]
 rintro e w8 ⟨rfl,hA⟩
 have GI:Hid (IB q {flat0 with kind:=9,name:=n,pos:=p,of_:=o,act:=a,times:=t} nil nil nil nil w8):=hA.2.blk HI.o (by omega)
 have GA:=hdd (HA.o.trans hA)
 clear hA
 try clear k_0 f_0
 clear HI
 clear HA
 revert GI GA;intro HI HA
 go_wp2_with fail
 refine (span_any E b s8 _ HA.o.1).mono ?_
 rw [H9.o]
 rintro e w9 ⟨rfl,hA⟩
 have GI:Hid (IB q {flat0 with kind:=9,name:=n,pos:=p,of_:=o,act:=a,times:=t} nil nil nil nil w9):=hA.2.blk HI.o (by omega)
 have GA:=hdd (HA.o.trans hA)
 clear hA
 clear HI
 clear HA
 revert GI GA;intro HI HA
 have k_0:w9.cell? ⟨q,0,none⟩=some (.int .i64 9):=jq0 HI.o 0
 have f_0:w9.frozen? ⟨q,0,none⟩=false:=jq1 HI.o 0
 have k_7:w9.cell? ⟨q,7,none⟩=some (.int .i64 0):=jq0 HI.o 7
 have f_7:w9.frozen? ⟨q,7,none⟩=false:=jq1 HI.o 7
 have k_8:w9.cell? ⟨q,8,none⟩=some (.bool false):=jq0 HI.o 8
 have f_8:w9.frozen? ⟨q,8,none⟩=false:=jq1 HI.o 8
 have k_9:w9.cell? ⟨q,9,none⟩=some (.string ⟨#[]⟩):=jq0 HI.o 9
 have f_9:w9.frozen? ⟨q,9,none⟩=false:=jq1 HI.o 9
 go_wp2_with fail
 refine (jx8 E b s9 [103,114,97,99,101] _ (((HA.o.set (i:=7) hq (.int .i64 (w.days:Int))).set (i:=8) hq (.bool w.bus)).set (i:=9) hq (.string ⟨w.name.toArray⟩)).1 (nd_of (by decide))).mono ?_
 rw [H10.o]
 rintro e w10 ⟨rfl,hA⟩
 have GI:Hid (IB q {flat0 with kind:=9,name:=n,pos:=p,of_:=o,act:=a,times:=t,within:=w} nil nil nil nil w10):=hA.2.blk (IB.set_within HI.o w) (by omega)
 have GA:=hdd ((((HA.o.set (i:=7) hq (.int .i64 (w.days:Int))).set (i:=8) hq (.bool w.bus)).set (i:=9) hq (.string ⟨w.name.toArray⟩)).trans hA)
 clear hA
 try clear k_0 f_0 k_7 f_7 k_8 f_8 k_9 f_9
 clear HI
 clear HA
 revert GI GA;intro HI HA
 go_wp2_with fail
 refine (kz2 E b s9 _ HA.o.1 q {flat0 with kind:=9,name:=n,pos:=p,of_:=o,act:=a,times:=t,within:=w} nil nil nil HI.o hq rfl rfl).mono ?_
 rw [H11.o]
 rintro e w11 ⟨rfl,⟨sc,hI,hO⟩,hA⟩
 have GI:Hid (IB q {flat0 with kind:=9,name:=n,pos:=p,of_:=o,act:=a,times:=t,within:=w,conds:=c.1,by_:=c.2.1,til:=c.2.2} sc nil nil nil w11):=hI
 have HRC:Hid (w11.ownsRow W.heap.size 59 2 sc c.1.length (c.1.flatMap cval)):=own_base hO HA.o.2.size
 have GA:=hdd (HA.o.trans2 hA)
 clear hI hO
 clear hA
 clear HI
 clear HA
 revert GI GA;intro HI HA
 have k_0:w11.cell? ⟨q,0,none⟩=some (.int .i64 9):=jq0 HI.o 0
 have f_0:w11.frozen? ⟨q,0,none⟩=false:=jq1 HI.o 0
 go_wp2_with fail
 refine (price_any E b s11 _ HA.o.1 q {flat0 with kind:=9,name:=n,pos:=p,of_:=o,act:=a,times:=t,within:=w,conds:=c.1,by_:=c.2.1,til:=c.2.2} sc nil nil nil HI.o hq ⟨rfl,rfl,rfl,rfl⟩).mono ?_
 rw [H12.o]
 rintro e w12 ⟨rfl,hI,hA⟩
 have GI:Hid (IB q {flat0 with kind:=9,name:=n,pos:=p,of_:=o,act:=a,times:=t,within:=w,conds:=c.1,by_:=c.2.1,til:=c.2.2,num:=pq.1.num,unit:=pq.1.unit,sum:=pq.1.sum,to_:=pq.1.to_,fin:=pq.2} sc nil nil nil w12):=hI
 have GRC:=hdd (jx5 HRC.o hA.2 (fun k hk _ e=>by rcases e with e|e<;>omega));clear HRC;have HRC:=GRC;clear GRC
 have GA:=hdd (HA.o.trans2 hA)
 clear hI
 clear hA
 try clear k_0 f_0
 clear HI
 clear HA
 revert GI GA;intro HI HA
 go_wp2_with fail
 refine (jx3 E b s12 [59] _ HA.o.1 (nd_of (by decide))).mono ?_
 rw [H13.o]
 rintro e w13 ⟨rfl,hA⟩
 have GI:Hid (IB q {flat0 with kind:=9,name:=n,pos:=p,of_:=o,act:=a,times:=t,within:=w,conds:=c.1,by_:=c.2.1,til:=c.2.2,num:=pq.1.num,unit:=pq.1.unit,sum:=pq.1.sum,to_:=pq.1.to_,fin:=pq.2} sc nil nil nil w13):=hA.2.blk HI.o (by omega)
 have GA:=hdd (HA.o.trans hA)
 have GRC:=hdd (jx5 HRC.o hA.2 (fun k hk _ e=>by omega));clear HRC;have HRC:=GRC;clear GRC
 clear hA
 clear HI
 clear HA
 revert GI GA;intro HI HA
 go_wp2_with fail
 first|go_end0|refine bodyPost_ret (results_none rfl _ _ _) rfl ?_
 exact ⟨rfl,⟨sc,HI.o,HRC.o⟩,HA.o⟩
theorem duty_p01 (E:Env) (b:Nat) (s:St) (W:World) (h:PW E b s W) (q:Nat) (n:Bytes) (p:Nat) (hI:IB q {flat0 with kind:=9,name:=n,pos:=p} nil nil nil nil W) (hq:b<q) (u1:Unit) (s1:St) (o:Bytes) (s2:St) (u3:Unit) (s3:St) (a:Bytes) (s4:St) (u6:Unit) (s6:St) (w:Span) (s7:St) (s8:St) (g:Span) (s9:St) (c:List Named×Bytes×Bytes) (s10:St) (pq:Price×Bool) (s11:St) (u12:Unit) (s12:St) (h1:expect [[111,102]] s=(u1,s1)) (h2:name s1=(o,s2)) (h3:expect [[58]] s2=(u3,s3)) (h4:name s3=(a,s4)) (h5:isK 2 s4=false) (h6:expect [[119,105,116,104,105,110]] s4=(u6,s6)) (h7:rspan s6=(w,s7)) (h8:acc [103,114,97,99,101] s7=(true,s8)) (h9:rspan s8=(g,s9)) (h10:circ s9=(c,s10)) (h11:rprice s10=(pq,s11)) (h12:expect [[59]] s11=(u12,s12)):
  Calls Tryd.prog 53 #[.pointer (some ⟨b,0,none⟩),.pointer (some ⟨q,0,none⟩)] W fun e w'=>e= .returned (.tuple #[])∧(∃sc,IB q {flat0 with kind:=9,name:=n,pos:=p,of_:=o,act:=a,times:=1,within:=w,grace:=g,conds:=c.1,by_:=c.2.1,til:=c.2.2,num:=pq.1.num,unit:=pq.1.unit,sum:=pq.1.sum,to_:=pq.1.to_,fin:=pq.2} sc nil nil nil w'∧w'.ownsRow W.heap.size 59 2 sc c.1.length (c.1.flatMap cval))∧After2 E b q s12 W w':=by
 have hbW:=h.2.2.1
 have hqW:=jq7 hI
 have HP:=hdd h;clear h
 have HI:=hdd hI;clear hI
 have H1:=hdd h1;clear h1
 have H2:=hdd h2;clear h2
 have H3:=hdd h3;clear h3
 have H4:=hdd h4;clear h4
 have H5:=hdd h5;clear h5
 have H6:=hdd h6;clear h6
 have H7:=hdd h7;clear h7
 have H8:=hdd h8;clear h8
 have H9:=hdd h9;clear h9
 have H10:=hdd h10;clear h10
 have H11:=hdd h11;clear h11
 have H12:=hdd h12;clear h12
 go_enter Tryd.func53,Tryd.ntmps53
 have k_0:W.cell? ⟨q,0,none⟩=some (.int .i64 9):=jq0 HI.o 0
 have f_0:W.frozen? ⟨q,0,none⟩=false:=jq1 HI.o 0
 go_wp2_with fail
 refine (jx3 E b s [111,102] _ (After2.start (q:=q) HP.o).1 (nd_of (by decide))).mono ?_
 rw [H1.o]
 rintro e w1 ⟨rfl,hA⟩
 have GI:Hid (IB q {flat0 with kind:=9,name:=n,pos:=p} nil nil nil nil w1):=hA.2.blk HI.o (by omega)
 have GA:=hdd ((After2.start (q:=q) HP.o).trans hA)
 clear hA
 try clear k_0 f_0
 clear HI
 revert GI GA;intro HI HA
 go_wp2_with fail
 refine (name_any E b s1 _ HA.o.1).mono ?_
 rw [H2.o]
 rintro e w2 ⟨rfl,hA⟩
 have GI:Hid (IB q {flat0 with kind:=9,name:=n,pos:=p} nil nil nil nil w2):=hA.2.blk HI.o (by omega)
 have GA:=hdd (HA.o.trans hA)
 clear hA
 clear HI
 clear HA
 revert GI GA;intro HI HA
 have k_3:w2.cell? ⟨q,3,none⟩=some (.string ⟨#[]⟩):=jq0 HI.o 3
 have f_3:w2.frozen? ⟨q,3,none⟩=false:=jq1 HI.o 3
 go_wp2_with fail
 refine (jx3 E b s2 [58] _ (HA.o.set (i:=3) hq (.string ⟨o.toArray⟩)).1 (nd_of (by decide))).mono ?_
 rw [H3.o]
 rintro e w3 ⟨rfl,hA⟩
 have GI:Hid (IB q {flat0 with kind:=9,name:=n,pos:=p,of_:=o} nil nil nil nil w3):=hA.2.blk (IB.set_of_ HI.o o) (by omega)
 have GA:=hdd ((HA.o.set (i:=3) hq (.string ⟨o.toArray⟩)).trans hA)
 clear hA
 try clear k_3 f_3
 clear HI
 clear HA
 revert GI GA;intro HI HA
 go_wp2_with fail
 refine (name_any E b s3 _ HA.o.1).mono ?_
 rw [H4.o]
 rintro e w4 ⟨rfl,hA⟩
 have GI:Hid (IB q {flat0 with kind:=9,name:=n,pos:=p,of_:=o} nil nil nil nil w4):=hA.2.blk HI.o (by omega)
 have GA:=hdd (HA.o.trans hA)
 clear hA
 clear HI
 clear HA
 revert GI GA;intro HI HA
 have k_0:w4.cell? ⟨q,0,none⟩=some (.int .i64 9):=jq0 HI.o 0
 have f_0:w4.frozen? ⟨q,0,none⟩=false:=jq1 HI.o 0
 have k_4:w4.cell? ⟨q,4,none⟩=some (.string ⟨#[]⟩):=jq0 HI.o 4
 have f_4:w4.frozen? ⟨q,4,none⟩=false:=jq1 HI.o 4
 have k_6:w4.cell? ⟨q,6,none⟩=some (.int .i64 0):=jq0 HI.o 6
 have f_6:w4.frozen? ⟨q,6,none⟩=false:=jq1 HI.o 6
 go_wp2_with fail
 refine (is_any E b s4 2 _ ((HA.o.set (i:=4) hq (.string ⟨a.toArray⟩)).set (i:=6) hq (.int .i64 (1:Int))).1).mono ?_
 rw [H5.o]
 rintro e w5 ⟨rfl,m5,rfl⟩
 go_wp2_with fail
 refine (jx3 E b s4 [119,105,116,104,105,110] _ (((HA.o.set (i:=4) hq (.string ⟨a.toArray⟩)).set (i:=6) hq (.int .i64 (1:Int))).drewN m5).1 (nd_of (by decide))).mono ?_
 rw [H6.o]
 rintro e w6 ⟨rfl,hA⟩
 have GI:Hid (IB q {flat0 with kind:=9,name:=n,pos:=p,of_:=o,act:=a,times:=1} nil nil nil nil w6):=hA.2.blk (jx2 (IB.set_times (IB.set_act HI.o a) 1) m5) (by omega)
 have GA:=hdd ((((HA.o.set (i:=4) hq (.string ⟨a.toArray⟩)).set (i:=6) hq (.int .i64 (1:Int))).drewN m5).trans hA)
 clear hA
 try clear k_0 f_0 k_4 f_4 k_6 f_6
 clear HI
 clear HA
 revert GI GA;intro HI HA
 go_wp2_with fail
 refine (span_any E b s6 _ HA.o.1).mono ?_
 rw [H7.o]
 rintro e w7 ⟨rfl,hA⟩
 have GI:Hid (IB q {flat0 with kind:=9,name:=n,pos:=p,of_:=o,act:=a,times:=1} nil nil nil nil w7):=hA.2.blk HI.o (by omega)
 have GA:=hdd (HA.o.trans hA)
 clear hA
 clear HI
 clear HA
 revert GI GA;intro HI HA
 have k_0:w7.cell? ⟨q,0,none⟩=some (.int .i64 9):=jq0 HI.o 0
 have f_0:w7.frozen? ⟨q,0,none⟩=false:=jq1 HI.o 0
 have k_7:w7.cell? ⟨q,7,none⟩=some (.int .i64 0):=jq0 HI.o 7
 have f_7:w7.frozen? ⟨q,7,none⟩=false:=jq1 HI.o 7
 have k_8:w7.cell? ⟨q,8,none⟩=some (.bool false):=jq0 HI.o 8
 have f_8:w7.frozen? ⟨q,8,none⟩=false:=jq1 HI.o 8
 have k_9:w7.cell? ⟨q,9,none⟩=some (.string ⟨#[]⟩):=jq0 HI.o 9
 have f_9:w7.frozen? ⟨q,9,none⟩=false:=jq1 HI.o 9
 go_wp2_with fail
 refine (jx8 E b s7 [103,114,97,99,101] _ (((HA.o.set (i:=7) hq (.int .i64 (w.days:Int))).set (i:=8) hq (.bool w.bus)).set (i:=9) hq (.string ⟨w.name.toArray⟩)).1 (nd_of (by decide))).mono ?_
 rw [H8.o]
 rintro e w8 ⟨rfl,hA⟩
 have GI:Hid (IB q {flat0 with kind:=9,name:=n,pos:=p,of_:=o,act:=a,times:=1,within:=w} nil nil nil nil w8):=hA.2.blk (IB.set_within HI.o w) (by omega)
 have GA:=hdd ((((HA.o.set (i:=7) hq (.int .i64 (w.days:Int))).set (i:=8) hq (.bool w.bus)).set (i:=9) hq (.string ⟨w.name.toArray⟩)).trans hA)
 clear hA
 try clear k_0 f_0 k_7 f_7 k_8 f_8 k_9 f_9
 clear HI
 clear HA
 revert GI GA;intro HI HA
 go_wp2_with fail
 refine (span_any E b s8 _ HA.o.1).mono ?_
 rw [H9.o]
 rintro e w9 ⟨rfl,hA⟩
 have GI:Hid (IB q {flat0 with kind:=9,name:=n,pos:=p,of_:=o,act:=a,times:=1,within:=w} nil nil nil nil w9):=hA.2.blk HI.o (by omega)
 have GA:=hdd (HA.o.trans hA)
 clear hA
 clear HI
 clear HA
 revert GI GA;intro HI HA
 have k_10:w9.cell? ⟨q,10,none⟩=some (.int .i64 0):=jq0 HI.o 10
 have f_10:w9.frozen? ⟨q,10,none⟩=false:=jq1 HI.o 10
 have k_11:w9.cell? ⟨q,11,none⟩=some (.bool false):=jq0 HI.o 11
 have f_11:w9.frozen? ⟨q,11,none⟩=false:=jq1 HI.o 11
 have k_12:w9.cell? ⟨q,12,none⟩=some (.string ⟨#[]⟩):=jq0 HI.o 12
 have f_12:w9.frozen? ⟨q,12,none⟩=false:=jq1 HI.o 12
 go_wp2_with fail
 refine (kz2 E b s9 _ (((HA.o.set (i:=10) hq (.int .i64 (g.days:Int))).set (i:=11) hq (.bool g.bus)).set (i:=12) hq (.string ⟨g.name.toArray⟩)).1 q {flat0 with kind:=9,name:=n,pos:=p,of_:=o,act:=a,times:=1,within:=w,grace:=g} nil nil nil (IB.set_grace HI.o g) hq rfl rfl).mono ?_
 rw [H10.o]
 rintro e w10 ⟨rfl,⟨sc,hI,hO⟩,hA⟩
 have GI:Hid (IB q {flat0 with kind:=9,name:=n,pos:=p,of_:=o,act:=a,times:=1,within:=w,grace:=g,conds:=c.1,by_:=c.2.1,til:=c.2.2} sc nil nil nil w10):=hI
 have HRC:Hid (w10.ownsRow W.heap.size 59 2 sc c.1.length (c.1.flatMap cval)):=own_base hO (((HA.o.set (i:=10) hq (.int .i64 (g.days:Int))).set (i:=11) hq (.bool g.bus)).set (i:=12) hq (.string ⟨g.name.toArray⟩)).2.size
 have GA:=hdd ((((HA.o.set (i:=10) hq (.int .i64 (g.days:Int))).set (i:=11) hq (.bool g.bus)).set (i:=12) hq (.string ⟨g.name.toArray⟩)).trans2 hA)
 clear hI hO
 clear hA
 try clear k_10 f_10 k_11 f_11 k_12 f_12
 clear HI
 clear HA
 revert GI GA;intro HI HA
 have k_0:w10.cell? ⟨q,0,none⟩=some (.int .i64 9):=jq0 HI.o 0
 have f_0:w10.frozen? ⟨q,0,none⟩=false:=jq1 HI.o 0
 go_wp2_with fail
 refine (price_any E b s10 _ HA.o.1 q {flat0 with kind:=9,name:=n,pos:=p,of_:=o,act:=a,times:=1,within:=w,grace:=g,conds:=c.1,by_:=c.2.1,til:=c.2.2} sc nil nil nil HI.o hq ⟨rfl,rfl,rfl,rfl⟩).mono ?_
 rw [H11.o]
 rintro e w11 ⟨rfl,hI,hA⟩
 have GI:Hid (IB q {flat0 with kind:=9,name:=n,pos:=p,of_:=o,act:=a,times:=1,within:=w,grace:=g,conds:=c.1,by_:=c.2.1,til:=c.2.2,num:=pq.1.num,unit:=pq.1.unit,sum:=pq.1.sum,to_:=pq.1.to_,fin:=pq.2} sc nil nil nil w11):=hI
 have GRC:=hdd (jx5 HRC.o hA.2 (fun k hk _ e=>by rcases e with e|e<;>omega));clear HRC;have HRC:=GRC;clear GRC
 have GA:=hdd (HA.o.trans2 hA)
 clear hI
 clear hA
 try clear k_0 f_0
 clear HI
 clear HA
 revert GI GA;intro HI HA
 go_wp2_with fail
 refine (jx3 E b s11 [59] _ HA.o.1 (nd_of (by decide))).mono ?_
 rw [H12.o]
 rintro e w12 ⟨rfl,hA⟩
 have GI:Hid (IB q {flat0 with kind:=9,name:=n,pos:=p,of_:=o,act:=a,times:=1,within:=w,grace:=g,conds:=c.1,by_:=c.2.1,til:=c.2.2,num:=pq.1.num,unit:=pq.1.unit,sum:=pq.1.sum,to_:=pq.1.to_,fin:=pq.2} sc nil nil nil w12):=hA.2.blk HI.o (by omega)
 have GA:=hdd (HA.o.trans hA)
 have GRC:=hdd (jx5 HRC.o hA.2 (fun k hk _ e=>by omega));clear HRC;have HRC:=GRC;clear GRC
 clear hA
 clear HI
 clear HA
 revert GI GA;intro HI HA
 go_wp2_with fail
 first|go_end0|refine bodyPost_ret (results_none rfl _ _ _) rfl ?_
 exact ⟨rfl,⟨sc,HI.o,HRC.o⟩,HA.o⟩
theorem duty_p00 (E:Env) (b:Nat) (s:St) (W:World) (h:PW E b s W) (q:Nat) (n:Bytes) (p:Nat) (hI:IB q {flat0 with kind:=9,name:=n,pos:=p} nil nil nil nil W) (hq:b<q) (u1:Unit) (s1:St) (o:Bytes) (s2:St) (u3:Unit) (s3:St) (a:Bytes) (s4:St) (u6:Unit) (s6:St) (w:Span) (s7:St) (c:List Named×Bytes×Bytes) (s9:St) (pq:Price×Bool) (s10:St) (u11:Unit) (s11:St) (h1:expect [[111,102]] s=(u1,s1)) (h2:name s1=(o,s2)) (h3:expect [[58]] s2=(u3,s3)) (h4:name s3=(a,s4)) (h5:isK 2 s4=false) (h6:expect [[119,105,116,104,105,110]] s4=(u6,s6)) (h7:rspan s6=(w,s7)) (h8:acc [103,114,97,99,101] s7=(false,s7)) (h9:circ s7=(c,s9)) (h10:rprice s9=(pq,s10)) (h11:expect [[59]] s10=(u11,s11)):
  Calls Tryd.prog 53 #[.pointer (some ⟨b,0,none⟩),.pointer (some ⟨q,0,none⟩)] W fun e w'=>e= .returned (.tuple #[])∧(∃sc,IB q {flat0 with kind:=9,name:=n,pos:=p,of_:=o,act:=a,times:=1,within:=w,conds:=c.1,by_:=c.2.1,til:=c.2.2,num:=pq.1.num,unit:=pq.1.unit,sum:=pq.1.sum,to_:=pq.1.to_,fin:=pq.2} sc nil nil nil w'∧w'.ownsRow W.heap.size 59 2 sc c.1.length (c.1.flatMap cval))∧After2 E b q s11 W w':=by
 have hbW:=h.2.2.1
 have hqW:=jq7 hI
 have HP:=hdd h;clear h
 have HI:=hdd hI;clear hI
 have H1:=hdd h1;clear h1
 have H2:=hdd h2;clear h2
 have H3:=hdd h3;clear h3
 have H4:=hdd h4;clear h4
 have H5:=hdd h5;clear h5
 have H6:=hdd h6;clear h6
 have H7:=hdd h7;clear h7
 have H8:=hdd h8;clear h8
 have H9:=hdd h9;clear h9
 have H10:=hdd h10;clear h10
 have H11:=hdd h11;clear h11
 go_enter Tryd.func53,Tryd.ntmps53
 have k_0:W.cell? ⟨q,0,none⟩=some (.int .i64 9):=jq0 HI.o 0
 have f_0:W.frozen? ⟨q,0,none⟩=false:=jq1 HI.o 0
 go_wp2_with fail
 refine (jx3 E b s [111,102] _ (After2.start (q:=q) HP.o).1 (nd_of (by decide))).mono ?_
 rw [H1.o]
 rintro e w1 ⟨rfl,hA⟩
 have GI:Hid (IB q {flat0 with kind:=9,name:=n,pos:=p} nil nil nil nil w1):=hA.2.blk HI.o (by omega)
 have GA:=hdd ((After2.start (q:=q) HP.o).trans hA)
 clear hA
 try clear k_0 f_0
 clear HI
 revert GI GA;intro HI HA
 go_wp2_with fail
 refine (name_any E b s1 _ HA.o.1).mono ?_
 rw [H2.o]
 rintro e w2 ⟨rfl,hA⟩
 have GI:Hid (IB q {flat0 with kind:=9,name:=n,pos:=p} nil nil nil nil w2):=hA.2.blk HI.o (by omega)
 have GA:=hdd (HA.o.trans hA)
 clear hA
 clear HI
 clear HA
 revert GI GA;intro HI HA
 have k_3:w2.cell? ⟨q,3,none⟩=some (.string ⟨#[]⟩):=jq0 HI.o 3
 have f_3:w2.frozen? ⟨q,3,none⟩=false:=jq1 HI.o 3
 go_wp2_with fail
 refine (jx3 E b s2 [58] _ (HA.o.set (i:=3) hq (.string ⟨o.toArray⟩)).1 (nd_of (by decide))).mono ?_
 rw [H3.o]
 rintro e w3 ⟨rfl,hA⟩
 have GI:Hid (IB q {flat0 with kind:=9,name:=n,pos:=p,of_:=o} nil nil nil nil w3):=hA.2.blk (IB.set_of_ HI.o o) (by omega)
 have GA:=hdd ((HA.o.set (i:=3) hq (.string ⟨o.toArray⟩)).trans hA)
 clear hA
 try clear k_3 f_3
 clear HI
 clear HA
 revert GI GA;intro HI HA
 go_wp2_with fail
 refine (name_any E b s3 _ HA.o.1).mono ?_
 rw [H4.o]
 rintro e w4 ⟨rfl,hA⟩
 have GI:Hid (IB q {flat0 with kind:=9,name:=n,pos:=p,of_:=o} nil nil nil nil w4):=hA.2.blk HI.o (by omega)
 have GA:=hdd (HA.o.trans hA)
 clear hA
 clear HI
 clear HA
 revert GI GA;intro HI HA
 have k_0:w4.cell? ⟨q,0,none⟩=some (.int .i64 9):=jq0 HI.o 0
 have f_0:w4.frozen? ⟨q,0,none⟩=false:=jq1 HI.o 0
 have k_4:w4.cell? ⟨q,4,none⟩=some (.string ⟨#[]⟩):=jq0 HI.o 4
 have f_4:w4.frozen? ⟨q,4,none⟩=false:=jq1 HI.o 4
 have k_6:w4.cell? ⟨q,6,none⟩=some (.int .i64 0):=jq0 HI.o 6
 have f_6:w4.frozen? ⟨q,6,none⟩=false:=jq1 HI.o 6
 go_wp2_with fail
 refine (is_any E b s4 2 _ ((HA.o.set (i:=4) hq (.string ⟨a.toArray⟩)).set (i:=6) hq (.int .i64 (1:Int))).1).mono ?_
 rw [H5.o]
 rintro e w5 ⟨rfl,m5,rfl⟩
 go_wp2_with fail
 refine (jx3 E b s4 [119,105,116,104,105,110] _ (((HA.o.set (i:=4) hq (.string ⟨a.toArray⟩)).set (i:=6) hq (.int .i64 (1:Int))).drewN m5).1 (nd_of (by decide))).mono ?_
 rw [H6.o]
 rintro e w6 ⟨rfl,hA⟩
 have GI:Hid (IB q {flat0 with kind:=9,name:=n,pos:=p,of_:=o,act:=a,times:=1} nil nil nil nil w6):=hA.2.blk (jx2 (IB.set_times (IB.set_act HI.o a) 1) m5) (by omega)
 have GA:=hdd ((((HA.o.set (i:=4) hq (.string ⟨a.toArray⟩)).set (i:=6) hq (.int .i64 (1:Int))).drewN m5).trans hA)
 clear hA
 try clear k_0 f_0 k_4 f_4 k_6 f_6
 clear HI
 clear HA
 revert GI GA;intro HI HA
 go_wp2_with fail
 refine (span_any E b s6 _ HA.o.1).mono ?_
 rw [H7.o]
 rintro e w7 ⟨rfl,hA⟩
 have GI:Hid (IB q {flat0 with kind:=9,name:=n,pos:=p,of_:=o,act:=a,times:=1} nil nil nil nil w7):=hA.2.blk HI.o (by omega)
 have GA:=hdd (HA.o.trans hA)
 clear hA
 clear HI
 clear HA
 revert GI GA;intro HI HA
 have k_0:w7.cell? ⟨q,0,none⟩=some (.int .i64 9):=jq0 HI.o 0
 have f_0:w7.frozen? ⟨q,0,none⟩=false:=jq1 HI.o 0
 have k_7:w7.cell? ⟨q,7,none⟩=some (.int .i64 0):=jq0 HI.o 7
 have f_7:w7.frozen? ⟨q,7,none⟩=false:=jq1 HI.o 7
 have k_8:w7.cell? ⟨q,8,none⟩=some (.bool false):=jq0 HI.o 8
 have f_8:w7.frozen? ⟨q,8,none⟩=false:=jq1 HI.o 8
 have k_9:w7.cell? ⟨q,9,none⟩=some (.string ⟨#[]⟩):=jq0 HI.o 9
 have f_9:w7.frozen? ⟨q,9,none⟩=false:=jq1 HI.o 9
 go_wp2_with fail
 refine (jx8 E b s7 [103,114,97,99,101] _ (((HA.o.set (i:=7) hq (.int .i64 (w.days:Int))).set (i:=8) hq (.bool w.bus)).set (i:=9) hq (.string ⟨w.name.toArray⟩)).1 (nd_of (by decide))).mono ?_
 rw [H8.o]
 rintro e w8 ⟨rfl,hA⟩
 have GI:Hid (IB q {flat0 with kind:=9,name:=n,pos:=p,of_:=o,act:=a,times:=1,within:=w} nil nil nil nil w8):=hA.2.blk (IB.set_within HI.o w) (by omega)
 have GA:=hdd ((((HA.o.set (i:=7) hq (.int .i64 (w.days:Int))).set (i:=8) hq (.bool w.bus)).set (i:=9) hq (.string ⟨w.name.toArray⟩)).trans hA)
 clear hA
 try clear k_0 f_0 k_7 f_7 k_8 f_8 k_9 f_9
 clear HI
 clear HA
 revert GI GA;intro HI HA
 go_wp2_with fail
 refine (kz2 E b s7 _ HA.o.1 q {flat0 with kind:=9,name:=n,pos:=p,of_:=o,act:=a,times:=1,within:=w} nil nil nil HI.o hq rfl rfl).mono ?_
 rw [H9.o]
 rintro e w9 ⟨rfl,⟨sc,hI,hO⟩,hA⟩
 have GI:Hid (IB q {flat0 with kind:=9,name:=n,pos:=p,of_:=o,act:=a,times:=1,within:=w,conds:=c.1,by_:=c.2.1,til:=c.2.2} sc nil nil nil w9):=hI
 have HRC:Hid (w9.ownsRow W.heap.size 59 2 sc c.1.length (c.1.flatMap cval)):=own_base hO HA.o.2.size
 have GA:=hdd (HA.o.trans2 hA)
 clear hI hO
 clear hA
 clear HI
 clear HA
 revert GI GA;intro HI HA
 have k_0:w9.cell? ⟨q,0,none⟩=some (.int .i64 9):=jq0 HI.o 0
 have f_0:w9.frozen? ⟨q,0,none⟩=false:=jq1 HI.o 0
 go_wp2_with fail
 refine (price_any E b s9 _ HA.o.1 q {flat0 with kind:=9,name:=n,pos:=p,of_:=o,act:=a,times:=1,within:=w,conds:=c.1,by_:=c.2.1,til:=c.2.2} sc nil nil nil HI.o hq ⟨rfl,rfl,rfl,rfl⟩).mono ?_
 rw [H10.o]
 rintro e w10 ⟨rfl,hI,hA⟩
 have GI:Hid (IB q {flat0 with kind:=9,name:=n,pos:=p,of_:=o,act:=a,times:=1,within:=w,conds:=c.1,by_:=c.2.1,til:=c.2.2,num:=pq.1.num,unit:=pq.1.unit,sum:=pq.1.sum,to_:=pq.1.to_,fin:=pq.2} sc nil nil nil w10):=hI
 have GRC:=hdd (jx5 HRC.o hA.2 (fun k hk _ e=>by rcases e with e|e<;>omega));clear HRC;have HRC:=GRC;clear GRC
 have GA:=hdd (HA.o.trans2 hA)
 clear hI
 clear hA
 try clear k_0 f_0
 clear HI
 clear HA
 revert GI GA;intro HI HA
 go_wp2_with fail
 refine (jx3 E b s10 [59] _ HA.o.1 (nd_of (by decide))).mono ?_
 rw [H11.o]
 rintro e w11 ⟨rfl,hA⟩
 have GI:Hid (IB q {flat0 with kind:=9,name:=n,pos:=p,of_:=o,act:=a,times:=1,within:=w,conds:=c.1,by_:=c.2.1,til:=c.2.2,num:=pq.1.num,unit:=pq.1.unit,sum:=pq.1.sum,to_:=pq.1.to_,fin:=pq.2} sc nil nil nil w11):=hA.2.blk HI.o (by omega)
 have GA:=hdd (HA.o.trans hA)
 have GRC:=hdd (jx5 HRC.o hA.2 (fun k hk _ e=>by omega));clear HRC;have HRC:=GRC;clear GRC
 clear hA
 clear HI
 clear HA
 revert GI GA;intro HI HA
 go_wp2_with fail
 first|go_end0|refine bodyPost_ret (results_none rfl _ _ _) rfl ?_
 exact ⟨rfl,⟨sc,HI.o,HRC.o⟩,HA.o⟩
theorem duty_any (E:Env) (b:Nat) (s:St) (W:World) (h:PW E b s W) (q:Nat) (n:Bytes) (p:Nat) (hI:IB q {flat0 with kind:=9,name:=n,pos:=p} nil nil nil nil W) (hq:b<q):
  Calls Tryd.prog 53 #[.pointer (some ⟨b,0,none⟩),.pointer (some ⟨q,0,none⟩)] W fun e w'=>e= .returned (.tuple #[])∧(∃sc,IB q {(dutyR n s).1 with pos:=p} sc nil nil nil w'∧w'.ownsRow W.heap.size 59 2 sc (dutyR n s).1.conds.length ((dutyR n s).1.conds.flatMap cval))∧After2 E b q (dutyR n s).2 W w':=by
 obtain ⟨u1,s1,h1⟩: ∃x s',expect [[111,102]] s=(x,s'):=⟨_,_,rfl⟩
 obtain ⟨o,s2,h2⟩: ∃x s',name s1=(x,s'):=⟨_,_,rfl⟩
 obtain ⟨u3,s3,h3⟩: ∃x s',expect [[58]] s2=(x,s'):=⟨_,_,rfl⟩
 obtain ⟨a,s4,h4⟩: ∃x s',name s3=(x,s'):=⟨_,_,rfl⟩
 have hb:bearer s=((o,a),s4):=(jx1 h1).trans ((jq3 h2).trans ((jx1 h3).trans ((jq3 h4).trans rfl)))
 obtain ⟨oT,s6,hT⟩: ∃x s',opt 2 s4=(x,s'):=⟨_,_,rfl⟩
 cases oT with
 |some T=>
  have h5:=(kx2 hT).1
  have h6:=kx9 hT
  obtain ⟨u7,s7,h7⟩: ∃x s',expect [[116,105,109,101,115]] s6=(x,s'):=⟨_,_,rfl⟩
  obtain ⟨u8,s8,h8⟩: ∃x s',expect [[119,105,116,104,105,110]] s7=(x,s'):=⟨_,_,rfl⟩
  obtain ⟨w,s9,h9⟩: ∃x s',rspan s8=(x,s'):=⟨_,_,rfl⟩
  rcases jv9 [103,114,97,99,101] s9 with ⟨s10,h10⟩|h10
  ·obtain ⟨g,s11,h11⟩: ∃x s',rspan s10=(x,s'):=⟨_,_,rfl⟩
   obtain ⟨c,s12,h12⟩: ∃x s',circ s11=(x,s'):=⟨_,_,rfl⟩
   obtain ⟨pq,s13,h13⟩: ∃x s',rprice s12=(x,s'):=⟨_,_,rfl⟩
   obtain ⟨u14,s14,h14⟩: ∃x s',expect [[59]] s13=(x,s'):=⟨_,_,rfl⟩
   have hp:dutyR n s=({flat0 with kind:=9,name:=n,of_:=o,act:=a,times:=T.n,within:=w,grace:=g,conds:=c.1,by_:=c.2.1,til:=c.2.2,num:=pq.1.num,unit:=pq.1.unit,sum:=pq.1.sum,to_:=pq.1.to_,fin:=pq.2},s14):=(jq3 hb).trans ((jq3 hT).trans ((jx1 h7).trans ((jx1 h8).trans ((jq3 h9).trans ((jz1 h10).trans ((jq3 h11).trans ((jq3 h12).trans ((jq3 h13).trans ((jx1 h14).trans (rfl))))))))))
   rw [hp]
   exact duty_p11 E b s W h q n p hI hq u1 s1 o s2 u3 s3 a s4 T.n s6 u7 s7 u8 s8 w s9 s10 g s11 c s12 pq s13 u14 s14 h1 h2 h3 h4 h5 h6 h7 h8 h9 h10 h11 h12 h13 h14
  ·obtain ⟨c,s11,h11⟩: ∃x s',circ s9=(x,s'):=⟨_,_,rfl⟩
   obtain ⟨pq,s12,h12⟩: ∃x s',rprice s11=(x,s'):=⟨_,_,rfl⟩
   obtain ⟨u13,s13,h13⟩: ∃x s',expect [[59]] s12=(x,s'):=⟨_,_,rfl⟩
   have hp:dutyR n s=({flat0 with kind:=9,name:=n,of_:=o,act:=a,times:=T.n,within:=w,conds:=c.1,by_:=c.2.1,til:=c.2.2,num:=pq.1.num,unit:=pq.1.unit,sum:=pq.1.sum,to_:=pq.1.to_,fin:=pq.2},s13):=(jq3 hb).trans ((jq3 hT).trans ((jx1 h7).trans ((jx1 h8).trans ((jq3 h9).trans ((jx9 h10).trans ((jq3 h11).trans ((jq3 h12).trans ((jx1 h13).trans (rfl)))))))))
   rw [hp]
   exact duty_p10 E b s W h q n p hI hq u1 s1 o s2 u3 s3 a s4 T.n s6 u7 s7 u8 s8 w s9 c s11 pq s12 u13 s13 h1 h2 h3 h4 h5 h6 h7 h8 h9 h10 h11 h12 h13
 |none=>
  have h5:=(jj5 hT).1
  have e6:=(jj5 hT).2
  rw [e6] at hT
  obtain ⟨u6,s6,h6⟩: ∃x s',expect [[119,105,116,104,105,110]] s4=(x,s'):=⟨_,_,rfl⟩
  obtain ⟨w,s7,h7⟩: ∃x s',rspan s6=(x,s'):=⟨_,_,rfl⟩
  rcases jv9 [103,114,97,99,101] s7 with ⟨s8,h8⟩|h8
  ·obtain ⟨g,s9,h9⟩: ∃x s',rspan s8=(x,s'):=⟨_,_,rfl⟩
   obtain ⟨c,s10,h10⟩: ∃x s',circ s9=(x,s'):=⟨_,_,rfl⟩
   obtain ⟨pq,s11,h11⟩: ∃x s',rprice s10=(x,s'):=⟨_,_,rfl⟩
   obtain ⟨u12,s12,h12⟩: ∃x s',expect [[59]] s11=(x,s'):=⟨_,_,rfl⟩
   have hp:dutyR n s=({flat0 with kind:=9,name:=n,of_:=o,act:=a,times:=1,within:=w,grace:=g,conds:=c.1,by_:=c.2.1,til:=c.2.2,num:=pq.1.num,unit:=pq.1.unit,sum:=pq.1.sum,to_:=pq.1.to_,fin:=pq.2},s12):=(jq3 hb).trans ((jq3 hT).trans ((jx1 h6).trans ((jq3 h7).trans ((jz1 h8).trans ((jq3 h9).trans ((jq3 h10).trans ((jq3 h11).trans ((jx1 h12).trans (rfl)))))))))
   rw [hp]
   exact duty_p01 E b s W h q n p hI hq u1 s1 o s2 u3 s3 a s4 u6 s6 w s7 s8 g s9 c s10 pq s11 u12 s12 h1 h2 h3 h4 h5 h6 h7 h8 h9 h10 h11 h12
  ·obtain ⟨c,s9,h9⟩: ∃x s',circ s7=(x,s'):=⟨_,_,rfl⟩
   obtain ⟨pq,s10,h10⟩: ∃x s',rprice s9=(x,s'):=⟨_,_,rfl⟩
   obtain ⟨u11,s11,h11⟩: ∃x s',expect [[59]] s10=(x,s'):=⟨_,_,rfl⟩
   have hp:dutyR n s=({flat0 with kind:=9,name:=n,of_:=o,act:=a,times:=1,within:=w,conds:=c.1,by_:=c.2.1,til:=c.2.2,num:=pq.1.num,unit:=pq.1.unit,sum:=pq.1.sum,to_:=pq.1.to_,fin:=pq.2},s11):=(jq3 hb).trans ((jq3 hT).trans ((jx1 h6).trans ((jq3 h7).trans ((jx9 h8).trans ((jq3 h9).trans ((jq3 h10).trans ((jx1 h11).trans (rfl))))))))
   rw [hp]
   exact duty_p00 E b s W h q n p hI hq u1 s1 o s2 u3 s3 a s4 u6 s6 w s7 c s9 pq s10 u11 s11 h1 h2 h3 h4 h5 h6 h7 h8 h9 h10 h11
end Go.Proofs.YtfaflipphkoiiaaDoor.Rp
