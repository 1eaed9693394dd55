/-
  What some methods of the parser return (printed by parwalk.py): bearer, consequences.
-/
import Derived.Test.YtfaflipphkoiiaaDoorParGenA
set_option maxHeartbeats 64000000
set_option maxRecDepth 100000
set_option linter.unusedVariables false
namespace Go.Proofs.YtfaflipphkoiiaaDoor.Pr
open Go.RowKit Mem
open Lx (Tok)
theorem bearer_p1 (E:Env) (b:Nat) (s:St) (W:World) (h:PW E b s W) (q:Nat) (f:Flat) (sc sd sn si:Value) (hI:IB q f sc sd sn si W) (hq:b<q) (u1:Unit) (s1:St) (o:Bytes) (s2:St) (u3:Unit) (s3:St) (a:Bytes) (s4:St) (h1:expect [[111,102]] s=(u1,s1)) (h2:name s1=(o,s2)) (h3:expect [[58]] s2=(u3,s3)) (h4:name s3=(a,s4)):
  Calls Tryd.prog 103 #[.pointer (some ⟨b,0,none⟩),.pointer (some ⟨q,0,none⟩)] W fun e w'=>e= .returned (.tuple #[])∧IB q {f with of_:=o,act:=a} sc sd sn si w'∧After2 E b q s4 W w':=by
 have HP:=hdd h;clear h
 have HI:=hdd hI;clear hI
 have H1:=hdd h1;clear h1
 have H2:=hdd h2;clear h2
 have H3:=hdd h3;clear h3
 have H4:=hdd h4;clear h4
 go_enter Tryd.func103,Tryd.ntmps103
 go_wp2_with fail
 refine (expect1 E b s [111,102] _ _ (by simp) (After2.start (q:=q) HP.o).1).mono ?_
 rw [H1.o]
 rintro e w1 ⟨rfl,hA⟩
 have GI:Hid (IB q f sc sd sn si w1):=hA.2.blk HI.o (by omega)
 have GA:=hdd ((After2.start (q:=q) HP.o).trans hA)
 clear hA
 clear HI
 revert GI GA;intro HI HA
 go_wp2_with fail
 refine (name_any E b s1 _ HA.o.1).mono ?_
 rw [H2.o]
 rintro e w2 ⟨rfl,hA⟩
 have GI:Hid (IB q f sc sd sn si w2):=hA.2.blk HI.o (by omega)
 have GA:=hdd (HA.o.trans hA)
 clear hA
 clear HI
 clear HA
 revert GI GA;intro HI HA
 have k_3:w2.cell? ⟨q,3,none⟩=some (.string ⟨f.of_.toArray⟩):=jq0 HI.o 3
 have f_3:w2.frozen? ⟨q,3,none⟩=false:=jq1 HI.o 3
 go_wp2_with fail
 refine (expect1 E b s2 [58] _ _ (by simp) (HA.o.set (i:=3) hq (.string ⟨o.toArray⟩)).1).mono ?_
 rw [H3.o]
 rintro e w3 ⟨rfl,hA⟩
 have GI:Hid (IB q {f with of_:=o} sc sd sn si w3):=hA.2.blk (IB.set_of_ HI.o o) (by omega)
 have GA:=hdd ((HA.o.set (i:=3) hq (.string ⟨o.toArray⟩)).trans hA)
 clear hA
 try clear k_3 f_3
 clear HI
 clear HA
 revert GI GA;intro HI HA
 go_wp2_with fail
 refine (name_any E b s3 _ HA.o.1).mono ?_
 rw [H4.o]
 rintro e w4 ⟨rfl,hA⟩
 have GI:Hid (IB q {f with of_:=o} sc sd sn si w4):=hA.2.blk HI.o (by omega)
 have GA:=hdd (HA.o.trans hA)
 clear hA
 clear HI
 clear HA
 revert GI GA;intro HI HA
 have k_4:w4.cell? ⟨q,4,none⟩=some (.string ⟨f.act.toArray⟩):=jq0 HI.o 4
 have f_4:w4.frozen? ⟨q,4,none⟩=false:=jq1 HI.o 4
 go_wp2_with fail
 go_end0
 exact ⟨rfl,(IB.set_act HI.o a),(HA.o.set (i:=4) hq (.string ⟨a.toArray⟩))⟩
theorem kq7 (E:Env) (b:Nat) (s:St) (W:World) (h:PW E b s W) (q:Nat) (f:Flat) (sc sd sn si:Value) (hI:IB q f sc sd sn si W) (hq:b<q):
  Calls Tryd.prog 103 #[.pointer (some ⟨b,0,none⟩),.pointer (some ⟨q,0,none⟩)] W fun e w'=>e= .returned (.tuple #[])∧IB q {f with of_:=(bearer s).1.1,act:=(bearer s).1.2} sc sd sn si w'∧After2 E b q (bearer s).2 W w':=by
 obtain ⟨u1,s1,h1⟩: ∃x s',expect [[111,102]] s=(x,s'):=⟨_,_,rfl⟩
 obtain ⟨o,s2,h2⟩: ∃x s',name s1=(x,s'):=⟨_,_,rfl⟩
 obtain ⟨u3,s3,h3⟩: ∃x s',expect [[58]] s2=(x,s'):=⟨_,_,rfl⟩
 obtain ⟨a,s4,h4⟩: ∃x s',name s3=(x,s'):=⟨_,_,rfl⟩
 have hp:bearer s=((o,a),s4):=(jx1 h1).trans ((jq3 h2).trans ((jx1 h3).trans ((jq3 h4).trans rfl)))
 rw [hp]
 exact bearer_p1 E b s W h q f sc sd sn si hI hq u1 s1 o s2 u3 s3 a s4 h1 h2 h3 h4
theorem cons_p1 (E:Env) (b:Nat) (s:St) (W:World) (h:PW E b s W) (q:Nat) (f:Flat) (sc sd sn si:Value) (hI:IB q f sc sd sn si W) (hq:b<q) (s1:St) (t2:Tok) (s2:St) (u3:Unit) (s3:St) (x:Bytes) (s4:St) (fb:Bool) (s5:St) (h1:acc [118,97,108,117,101] s=(true,s1)) (h2:opt 1 s1=(some t2,s2)) (h3:expect [[116,111]] s2=(u3,s3)) (h4:name s3=(x,s4)) (h5:acc [102,105,110,97,108] s4=(fb,s5)):
  Calls Tryd.prog 106 #[.pointer (some ⟨b,0,none⟩),.pointer (some ⟨q,0,none⟩)] W fun e w'=>e= .returned (.tuple #[])∧IB q {f with sum:=t2.text,to_:=x,fin:=fb} sc sd sn si w'∧After2 E b q s5 W w':=by
 have HP:=hdd h;clear h
 have HI:=hdd hI;clear hI
 have H1:=hdd h1;clear h1
 have H2:=hdd h2;clear h2
 have H3:=hdd h3;clear h3
 have H4:=hdd h4;clear h4
 have H5:=hdd h5;clear h5
 go_enter Tryd.func106,Tryd.ntmps106
 go_wp2_with fail
 refine (jx0 E b s [118,97,108,117,101] _ (After2.start (q:=q) HP.o).1).mono ?_
 rw [H1.o]
 rintro e w1 ⟨rfl,hA⟩
 have GI:Hid (IB q f sc sd sn si w1):=hA.2.blk HI.o (by omega)
 have GA:=hdd ((After2.start (q:=q) HP.o).trans hA)
 clear hA
 clear HI
 revert GI GA;intro HI HA
 go_wp2_with fail
 refine (jz7 E b s1 1 _ HA.o.1).mono ?_
 rw [(kx2 H2.o).1]
 rintro e w2 ⟨rfl,m2,rfl⟩
 go_wp2_with fail
 refine (name_any E b s1 _ (HA.o.drewN m2).1).mono ?_
 rw [name_of_opt H2.o]
 rintro e w2 ⟨rfl,hA⟩
 have GI:Hid (IB q f sc sd sn si w2):=hA.2.blk (jx2 HI.o m2) (by omega)
 have GA:=hdd ((HA.o.drewN m2).trans hA)
 clear hA
 clear HI
 clear HA
 revert GI GA;intro HI HA
 have k_19:w2.cell? ⟨q,19,none⟩=some (.string ⟨f.sum.toArray⟩):=jq0 HI.o 19
 have f_19:w2.frozen? ⟨q,19,none⟩=false:=jq1 HI.o 19
 go_wp2_with fail
 refine (expect1 E b s2 [116,111] _ _ (by simp) (HA.o.set (i:=19) hq (.string ⟨t2.text.toArray⟩)).1).mono ?_
 rw [H3.o]
 rintro e w3 ⟨rfl,hA⟩
 have GI:Hid (IB q {f with sum:=t2.text} sc sd sn si w3):=hA.2.blk (IB.set_sum HI.o t2.text) (by omega)
 have GA:=hdd ((HA.o.set (i:=19) hq (.string ⟨t2.text.toArray⟩)).trans hA)
 clear hA
 try clear k_19 f_19
 clear HI
 clear HA
 revert GI GA;intro HI HA
 go_wp2_with fail
 refine (name_any E b s3 _ HA.o.1).mono ?_
 rw [H4.o]
 rintro e w4 ⟨rfl,hA⟩
 have GI:Hid (IB q {f with sum:=t2.text} sc sd sn si w4):=hA.2.blk HI.o (by omega)
 have GA:=hdd (HA.o.trans hA)
 clear hA
 clear HI
 clear HA
 revert GI GA;intro HI HA
 have k_22:w4.cell? ⟨q,22,none⟩=some (.string ⟨f.to_.toArray⟩):=jq0 HI.o 22
 have f_22:w4.frozen? ⟨q,22,none⟩=false:=jq1 HI.o 22
 go_wp2_with fail
 refine (jx0 E b s4 [102,105,110,97,108] _ (HA.o.set (i:=22) hq (.string ⟨x.toArray⟩)).1).mono ?_
 rw [H5.o]
 rintro e w5 ⟨rfl,hA⟩
 have GI:Hid (IB q {f with sum:=t2.text,to_:=x} sc sd sn si w5):=hA.2.blk (IB.set_to_ HI.o x) (by omega)
 have GA:=hdd ((HA.o.set (i:=22) hq (.string ⟨x.toArray⟩)).trans hA)
 clear hA
 try clear k_22 f_22
 clear HI
 clear HA
 revert GI GA;intro HI HA
 have k_20:w5.cell? ⟨q,20,none⟩=some (.bool f.fin):=jq0 HI.o 20
 have f_20:w5.frozen? ⟨q,20,none⟩=false:=jq1 HI.o 20
 go_wp2_with fail
 go_end0
 exact ⟨rfl,(IB.set_fin HI.o fb),(HA.o.set (i:=20) hq (.bool fb))⟩
theorem cons_p2 (E:Env) (b:Nat) (s:St) (W:World) (h:PW E b s W) (q:Nat) (f:Flat) (sc sd sn si:Value) (hI:IB q f sc sd sn si W) (hq:b<q) (s1:St) (s2:St) (r:Ratio) (s3:St) (u:Bytes) (s4:St) (u5:Unit) (s5:St) (x:Bytes) (s6:St) (fb:Bool) (s7:St) (h1:acc [118,97,108,117,101] s=(true,s1)) (h2:opt 1 s1=(none,s2)) (h3:ratio s2=(r,s3)) (h4:name s3=(u,s4)) (h5:expect [[116,111]] s4=(u5,s5)) (h6:name s5=(x,s6)) (h7:acc [102,105,110,97,108] s6=(fb,s7)):
  Calls Tryd.prog 106 #[.pointer (some ⟨b,0,none⟩),.pointer (some ⟨q,0,none⟩)] W fun e w'=>e= .returned (.tuple #[])∧IB q {f with num:=r,unit:=u,to_:=x,fin:=fb} sc sd sn si w'∧After2 E b q s7 W w':=by
 have HP:=hdd h;clear h
 have HI:=hdd hI;clear hI
 have H1:=hdd h1;clear h1
 have H2:=hdd h2;clear h2
 have H3:=hdd h3;clear h3
 have H4:=hdd h4;clear h4
 have H5:=hdd h5;clear h5
 have H6:=hdd h6;clear h6
 have H7:=hdd h7;clear h7
 go_enter Tryd.func106,Tryd.ntmps106
 go_wp2_with fail
 refine (jx0 E b s [118,97,108,117,101] _ (After2.start (q:=q) HP.o).1).mono ?_
 rw [H1.o]
 rintro e w1 ⟨rfl,hA⟩
 have GI:Hid (IB q f sc sd sn si w1):=hA.2.blk HI.o (by omega)
 have GA:=hdd ((After2.start (q:=q) HP.o).trans hA)
 clear hA
 clear HI
 revert GI GA;intro HI HA
 go_wp2_with fail
 refine (jz7 E b s1 1 _ HA.o.1).mono ?_
 rw [(jj5 H2.o).1]
 rintro e w2 ⟨rfl,m2,rfl⟩
 obtain rfl:=(jj5 H2.o).2
 go_wp2_with fail
 refine (ratio_any E b s2 _ (HA.o.drewN m2).1).mono ?_
 rw [H3.o]
 rintro e w3 ⟨rfl,hA⟩
 have GI:Hid (IB q f sc sd sn si w3):=hA.2.blk (jx2 HI.o m2) (by omega)
 have GA:=hdd ((HA.o.drewN m2).trans hA)
 clear hA
 clear HI
 clear HA
 revert GI GA;intro HI HA
 have k_16:w3.cell? ⟨q,16,none⟩=some (.int .i64 (f.num.num:Int)):=jq0 HI.o 16
 have f_16:w3.frozen? ⟨q,16,none⟩=false:=jq1 HI.o 16
 have k_17:w3.cell? ⟨q,17,none⟩=some (.int .i64 (f.num.den:Int)):=jq0 HI.o 17
 have f_17:w3.frozen? ⟨q,17,none⟩=false:=jq1 HI.o 17
 go_wp2_with fail
 refine (name_any E b s3 _ ((HA.o.set (i:=16) hq (.int .i64 (r.num:Int))).set (i:=17) hq (.int .i64 (r.den:Int))).1).mono ?_
 rw [H4.o]
 rintro e w4 ⟨rfl,hA⟩
 have GI:Hid (IB q {f with num:=r} sc sd sn si w4):=hA.2.blk (IB.set_num HI.o r) (by omega)
 have GA:=hdd (((HA.o.set (i:=16) hq (.int .i64 (r.num:Int))).set (i:=17) hq (.int .i64 (r.den:Int))).trans hA)
 clear hA
 try clear k_16 f_16 k_17 f_17
 clear HI
 clear HA
 revert GI GA;intro HI HA
 have k_18:w4.cell? ⟨q,18,none⟩=some (.string ⟨f.unit.toArray⟩):=jq0 HI.o 18
 have f_18:w4.frozen? ⟨q,18,none⟩=false:=jq1 HI.o 18
 go_wp2_with fail
 refine (expect1 E b s4 [116,111] _ _ (by simp) (HA.o.set (i:=18) hq (.string ⟨u.toArray⟩)).1).mono ?_
 rw [H5.o]
 rintro e w5 ⟨rfl,hA⟩
 have GI:Hid (IB q {f with num:=r,unit:=u} sc sd sn si w5):=hA.2.blk (IB.set_unit HI.o u) (by omega)
 have GA:=hdd ((HA.o.set (i:=18) hq (.string ⟨u.toArray⟩)).trans hA)
 clear hA
 try clear k_18 f_18
 clear HI
 clear HA
 revert GI GA;intro HI HA
 go_wp2_with fail
 refine (name_any E b s5 _ HA.o.1).mono ?_
 rw [H6.o]
 rintro e w6 ⟨rfl,hA⟩
 have GI:Hid (IB q {f with num:=r,unit:=u} sc sd sn si w6):=hA.2.blk HI.o (by omega)
 have GA:=hdd (HA.o.trans hA)
 clear hA
 clear HI
 clear HA
 revert GI GA;intro HI HA
 have k_22:w6.cell? ⟨q,22,none⟩=some (.string ⟨f.to_.toArray⟩):=jq0 HI.o 22
 have f_22:w6.frozen? ⟨q,22,none⟩=false:=jq1 HI.o 22
 go_wp2_with fail
 refine (jx0 E b s6 [102,105,110,97,108] _ (HA.o.set (i:=22) hq (.string ⟨x.toArray⟩)).1).mono ?_
 rw [H7.o]
 rintro e w7 ⟨rfl,hA⟩
 have GI:Hid (IB q {f with num:=r,unit:=u,to_:=x} sc sd sn si w7):=hA.2.blk (IB.set_to_ HI.o x) (by omega)
 have GA:=hdd ((HA.o.set (i:=22) hq (.string ⟨x.toArray⟩)).trans hA)
 clear hA
 try clear k_22 f_22
 clear HI
 clear HA
 revert GI GA;intro HI HA
 have k_20:w7.cell? ⟨q,20,none⟩=some (.bool f.fin):=jq0 HI.o 20
 have f_20:w7.frozen? ⟨q,20,none⟩=false:=jq1 HI.o 20
 go_wp2_with fail
 go_end0
 exact ⟨rfl,(IB.set_fin HI.o fb),(HA.o.set (i:=20) hq (.bool fb))⟩
theorem cons_p3 (E:Env) (b:Nat) (s:St) (W:World) (h:PW E b s W) (q:Nat) (f:Flat) (sc sd sn si:Value) (hI:IB q f sc sd sn si W) (hq:b<q) (s1:St) (fb:Bool) (s2:St) (h1:acc [118,97,108,117,101] s=(false,s1)) (h2:acc [102,105,110,97,108] s1=(fb,s2)):
  Calls Tryd.prog 106 #[.pointer (some ⟨b,0,none⟩),.pointer (some ⟨q,0,none⟩)] W fun e w'=>e= .returned (.tuple #[])∧IB q {f with fin:=fb} sc sd sn si w'∧After2 E b q s2 W w':=by
 have HP:=hdd h;clear h
 have HI:=hdd hI;clear hI
 have H1:=hdd h1;clear h1
 have H2:=hdd h2;clear h2
 go_enter Tryd.func106,Tryd.ntmps106
 go_wp2_with fail
 refine (jx0 E b s [118,97,108,117,101] _ (After2.start (q:=q) HP.o).1).mono ?_
 rw [H1.o]
 rintro e w1 ⟨rfl,hA⟩
 have GI:Hid (IB q f sc sd sn si w1):=hA.2.blk HI.o (by omega)
 have GA:=hdd ((After2.start (q:=q) HP.o).trans hA)
 clear hA
 clear HI
 revert GI GA;intro HI HA
 go_wp2_with fail
 refine (jx0 E b s1 [102,105,110,97,108] _ HA.o.1).mono ?_
 rw [H2.o]
 rintro e w2 ⟨rfl,hA⟩
 have GI:Hid (IB q f sc sd sn si w2):=hA.2.blk HI.o (by omega)
 have GA:=hdd (HA.o.trans hA)
 clear hA
 clear HI
 clear HA
 revert GI GA;intro HI HA
 have k_20:w2.cell? ⟨q,20,none⟩=some (.bool f.fin):=jq0 HI.o 20
 have f_20:w2.frozen? ⟨q,20,none⟩=false:=jq1 HI.o 20
 go_wp2_with fail
 go_end0
 exact ⟨rfl,(IB.set_fin HI.o fb),(HA.o.set (i:=20) hq (.bool fb))⟩
theorem cons_any (E:Env) (b:Nat) (s:St) (W:World) (h:PW E b s W) (q:Nat) (f:Flat) (sc sd sn si:Value) (hI:IB q f sc sd sn si W) (hq:b<q) (hf:f.num=⟨0,0⟩∧f.unit= []∧f.sum= []∧f.to_= []):
  Calls Tryd.prog 106 #[.pointer (some ⟨b,0,none⟩),.pointer (some ⟨q,0,none⟩)] W fun e w'=>e= .returned (.tuple #[])∧IB q {f with num:=(cons s).1.1.num,unit:=(cons s).1.1.unit,sum:=(cons s).1.1.sum,to_:=(cons s).1.1.to_,fin:=(cons s).1.2} sc sd sn si w'∧After2 E b q (cons s).2 W w':=by
 obtain ⟨f0,f1,f2,f3,f4,f5,f6,f7,f8,f9,f10,f11,f12,f13,f14,f15,f16,f17,f18,f19,f20⟩:=f
 obtain ⟨rfl,rfl,rfl,rfl⟩:=hf
 obtain ⟨b1,s1,h1⟩: ∃x s',acc [118,97,108,117,101] s=(x,s'):=⟨_,_,rfl⟩
 cases b1 with
 |true=>
  obtain ⟨o2,s2,h2⟩: ∃x s',opt 1 s1=(x,s'):=⟨_,_,rfl⟩
  cases o2 with
  |some t2=>
   obtain ⟨u3,s3,h3⟩: ∃x s',expect [[116,111]] s2=(x,s'):=⟨_,_,rfl⟩
   obtain ⟨x,s4,h4⟩: ∃x s',name s3=(x,s'):=⟨_,_,rfl⟩
   obtain ⟨fb,s5,h5⟩: ∃x s',acc [102,105,110,97,108] s4=(x,s'):=⟨_,_,rfl⟩
   have hp:cons s=((⟨⟨0,0⟩,[],t2.text,x⟩,fb),s5):=(jz1 h1).trans ((jq3 h2).trans ((jx1 h3).trans ((jq3 h4).trans ((jq3 h5).trans rfl))))
   rw [hp]
   exact cons_p1 E b s W h q _ sc sd sn si hI hq s1 t2 s2 u3 s3 x s4 fb s5 h1 h2 h3 h4 h5
  |none=>
   obtain ⟨r,s3,h3⟩: ∃x s',ratio s2=(x,s'):=⟨_,_,rfl⟩
   obtain ⟨u,s4,h4⟩: ∃x s',name s3=(x,s'):=⟨_,_,rfl⟩
   obtain ⟨u5,s5,h5⟩: ∃x s',expect [[116,111]] s4=(x,s'):=⟨_,_,rfl⟩
   obtain ⟨x,s6,h6⟩: ∃x s',name s5=(x,s'):=⟨_,_,rfl⟩
   obtain ⟨fb,s7,h7⟩: ∃x s',acc [102,105,110,97,108] s6=(x,s'):=⟨_,_,rfl⟩
   have hp:cons s=((⟨r,u,[],x⟩,fb),s7):=(jz1 h1).trans ((jq3 h2).trans ((jq3 h3).trans ((jq3 h4).trans ((jx1 h5).trans ((jq3 h6).trans ((jq3 h7).trans rfl))))))
   rw [hp]
   exact cons_p2 E b s W h q _ sc sd sn si hI hq s1 s2 r s3 u s4 u5 s5 x s6 fb s7 h1 h2 h3 h4 h5 h6 h7
 |false=>
  obtain ⟨fb,s2,h2⟩: ∃x s',acc [102,105,110,97,108] s1=(x,s'):=⟨_,_,rfl⟩
  have hp:cons s=((⟨⟨0,0⟩,[],[],[]⟩,fb),s2):=(jx9 h1).trans ((jq3 h2).trans rfl)
  rw [hp]
  exact cons_p3 E b s W h q _ sc sd sn si hI hq s1 fb s2 h1 h2
end Go.Proofs.YtfaflipphkoiiaaDoor.Pr
