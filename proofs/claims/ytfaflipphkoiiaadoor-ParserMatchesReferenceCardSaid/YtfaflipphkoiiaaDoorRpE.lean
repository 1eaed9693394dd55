/-
  What some functions of the reference's parser return (printed by mkrp4.py): act.
-/
import Derived.Test.YtfaflipphkoiiaaDoorPkRpA
set_option maxHeartbeats 64000000
set_option maxRecDepth 100000
set_option linter.unusedVariables false
namespace Go.Proofs.YtfaflipphkoiiaaDoor.Rp
open Go.RowKit Mem Pr
open Lx (Tok isDigit isLetter isSym)
theorem act_p1 (E:Env) (b:Nat) (s:St) (W:World) (h:PW E b s W) (q:Nat) (f:Flat) (sc sd sn si:Value) (hI:IB q f sc sd sn si W) (hq:b<q) (u1:Unit) (s1:St) (o:Bytes) (s2:St) (s3:St) (g:Bytes) (s4:St) (u5:Unit) (s5:St) (t:Bytes) (s6:St) (u7:Unit) (s7:St) (h1:expect [[98,121]] s=(u1,s1)) (h2:name s1=(o,s2)) (hn:o= [110,97,116,117,114,101]) (h3:acc [97,115,115,105,103,110,115] s2=(true,s3)) (h4:name s3=(g,s4)) (h5:expect [[116,111]] s4=(u5,s5)) (h6:name s5=(t,s6)) (h7:expect [[59]] s6=(u7,s7)):
  Calls Tryd.prog 50 #[.pointer (some ⟨b,0,none⟩),.pointer (some ⟨q,0,none⟩)] W fun e w'=>e= .returned (.tuple #[])∧IB q {f with of_:= [],word:=2,give:=g,to_:=t} sc sd sn si w'∧After2 E b q s7 W w':=by
 have HP:=hdd h;clear h
 have HI:=hdd hI;clear hI
 have H1:=hdd h1;clear h1
 have H2:=hdd h2;clear h2
 subst hn
 have H3:=hdd h3;clear h3
 have H4:=hdd h4;clear h4
 have H5:=hdd h5;clear h5
 have H6:=hdd h6;clear h6
 have H7:=hdd h7;clear h7
 go_enter Tryd.func50,Tryd.ntmps50
 go_wp2_with fail
 refine (jx3 E b s [98,121] _ (After2.start (q:=q) HP.o).1 (nd_of (by decide))).mono ?_
 rw [H1.o]
 rintro e w1 ⟨rfl,hA⟩
 have GI:Hid (IB q f sc sd sn si w1):=hA.2.blk HI.o (by omega)
 have GA:=hdd ((After2.start (q:=q) HP.o).trans hA)
 clear hA
 clear HI
 revert GI GA;intro HI HA
 go_wp2_with fail
 refine (name_any E b s1 _ HA.o.1).mono ?_
 rw [H2.o]
 rintro e w2 ⟨rfl,hA⟩
 have GI:Hid (IB q f sc sd sn si w2):=hA.2.blk HI.o (by omega)
 have GA:=hdd (HA.o.trans hA)
 clear hA
 clear HI
 clear HA
 revert GI GA;intro HI HA
 have k_3:w2.cell? ⟨q,3,none⟩=some (.string ⟨f.of_.toArray⟩):=jq0 HI.o 3
 have f_3:w2.frozen? ⟨q,3,none⟩=false:=jq1 HI.o 3
 have k_5:w2.cell? ⟨q,5,none⟩=some (.int .i64 (f.word:Int)):=jq0 HI.o 5
 have f_5:w2.frozen? ⟨q,5,none⟩=false:=jq1 HI.o 5
 go_wp2_with fail
 refine (jz3 E b s2 [97,115,115,105,103,110,115] _ (((HA.o.set (i:=3) hq (.string ⟨[110,97,116,117,114,101].toArray⟩)).set (i:=3) hq (.string ⟨[].toArray⟩)).set (i:=5) hq (.int .i64 (1:Int))).1 (nd_of (by decide))).mono ?_
 rw [acc_isT H3.o]
 rintro e w3 ⟨rfl,m3,rfl⟩
 go_wp2_with fail
 refine (jx8 E b s2 [97,115,115,105,103,110,115] _ (((((HA.o.set (i:=3) hq (.string ⟨[110,97,116,117,114,101].toArray⟩)).set (i:=3) hq (.string ⟨[].toArray⟩)).set (i:=5) hq (.int .i64 (1:Int))).drewN m3).set (i:=5) hq (.int .i64 (3:Int))).1 (nd_of (by decide))).mono ?_
 rw [H3.o]
 rintro e w4 ⟨rfl,hA⟩
 have GI:Hid (IB q {f with of_:= [],word:=3} sc sd sn si w4):=hA.2.blk (IB.set_word (jx2 (IB.set_word (IB.set_of_ (IB.set_of_ HI.o [110,97,116,117,114,101]) []) 1) m3) 3) (by omega)
 have GA:=hdd ((((((HA.o.set (i:=3) hq (.string ⟨[110,97,116,117,114,101].toArray⟩)).set (i:=3) hq (.string ⟨[].toArray⟩)).set (i:=5) hq (.int .i64 (1:Int))).drewN m3).set (i:=5) hq (.int .i64 (3:Int))).trans hA)
 clear hA
 try clear k_3 f_3 k_5 f_5
 clear HI
 clear HA
 revert GI GA;intro HI HA
 have k_5:w4.cell? ⟨q,5,none⟩=some (.int .i64 3):=jq0 HI.o 5
 have f_5:w4.frozen? ⟨q,5,none⟩=false:=jq1 HI.o 5
 go_wp2_with fail
 refine (name_any E b s3 _ (HA.o.set (i:=5) hq (.int .i64 (2:Int))).1).mono ?_
 rw [H4.o]
 rintro e w5 ⟨rfl,hA⟩
 have GI:Hid (IB q {f with of_:= [],word:=2} sc sd sn si w5):=hA.2.blk (IB.set_word HI.o 2) (by omega)
 have GA:=hdd ((HA.o.set (i:=5) hq (.int .i64 (2:Int))).trans hA)
 clear hA
 try clear k_5 f_5
 clear HI
 clear HA
 revert GI GA;intro HI HA
 have k_21:w5.cell? ⟨q,21,none⟩=some (.string ⟨f.give.toArray⟩):=jq0 HI.o 21
 have f_21:w5.frozen? ⟨q,21,none⟩=false:=jq1 HI.o 21
 go_wp2_with fail
 refine (jx3 E b s4 [116,111] _ (HA.o.set (i:=21) hq (.string ⟨g.toArray⟩)).1 (nd_of (by decide))).mono ?_
 rw [H5.o]
 rintro e w6 ⟨rfl,hA⟩
 have GI:Hid (IB q {f with of_:= [],word:=2,give:=g} sc sd sn si w6):=hA.2.blk (IB.set_give HI.o g) (by omega)
 have GA:=hdd ((HA.o.set (i:=21) hq (.string ⟨g.toArray⟩)).trans hA)
 clear hA
 try clear k_21 f_21
 clear HI
 clear HA
 revert GI GA;intro HI HA
 go_wp2_with fail
 refine (name_any E b s5 _ HA.o.1).mono ?_
 rw [H6.o]
 rintro e w7 ⟨rfl,hA⟩
 have GI:Hid (IB q {f with of_:= [],word:=2,give:=g} sc sd sn si w7):=hA.2.blk HI.o (by omega)
 have GA:=hdd (HA.o.trans hA)
 clear hA
 clear HI
 clear HA
 revert GI GA;intro HI HA
 have k_22:w7.cell? ⟨q,22,none⟩=some (.string ⟨f.to_.toArray⟩):=jq0 HI.o 22
 have f_22:w7.frozen? ⟨q,22,none⟩=false:=jq1 HI.o 22
 go_wp2_with fail
 refine (jx3 E b s6 [59] _ (HA.o.set (i:=22) hq (.string ⟨t.toArray⟩)).1 (nd_of (by decide))).mono ?_
 rw [H7.o]
 rintro e w8 ⟨rfl,hA⟩
 have GI:Hid (IB q {f with of_:= [],word:=2,give:=g,to_:=t} sc sd sn si w8):=hA.2.blk (IB.set_to_ HI.o t) (by omega)
 have GA:=hdd ((HA.o.set (i:=22) hq (.string ⟨t.toArray⟩)).trans hA)
 clear hA
 try clear k_22 f_22
 clear HI
 clear HA
 revert GI GA;intro HI HA
 go_wp2_with fail
 first|go_end0|refine bodyPost_ret (results_none rfl _ _ _) rfl ?_
 exact ⟨rfl,HI.o,HA.o⟩
theorem act_p2 (E:Env) (b:Nat) (s:St) (W:World) (h:PW E b s W) (q:Nat) (f:Flat) (sc sd sn si:Value) (hI:IB q f sc sd sn si W) (hq:b<q) (u1:Unit) (s1:St) (o:Bytes) (s2:St) (s4:St) (g:Bytes) (s5:St) (u6:Unit) (s6:St) (t:Bytes) (s7:St) (u8:Unit) (s8:St) (h1:expect [[98,121]] s=(u1,s1)) (h2:name s1=(o,s2)) (hn:o= [110,97,116,117,114,101]) (h3:acc [97,115,115,105,103,110,115] s2=(false,s2)) (h4:acc [110,111,118,97,116,101,115] s2=(true,s4)) (h5:name s4=(g,s5)) (h6:expect [[116,111]] s5=(u6,s6)) (h7:name s6=(t,s7)) (h8:expect [[59]] s7=(u8,s8)):
  Calls Tryd.prog 50 #[.pointer (some ⟨b,0,none⟩),.pointer (some ⟨q,0,none⟩)] W fun e w'=>e= .returned (.tuple #[])∧IB q {f with of_:= [],word:=3,give:=g,to_:=t} sc sd sn si w'∧After2 E b q s8 W w':=by
 have HP:=hdd h;clear h
 have HI:=hdd hI;clear hI
 have H1:=hdd h1;clear h1
 have H2:=hdd h2;clear h2
 subst hn
 have H3:=hdd h3;clear h3
 have H4:=hdd h4;clear h4
 have H5:=hdd h5;clear h5
 have H6:=hdd h6;clear h6
 have H7:=hdd h7;clear h7
 have H8:=hdd h8;clear h8
 go_enter Tryd.func50,Tryd.ntmps50
 go_wp2_with fail
 refine (jx3 E b s [98,121] _ (After2.start (q:=q) HP.o).1 (nd_of (by decide))).mono ?_
 rw [H1.o]
 rintro e w1 ⟨rfl,hA⟩
 have GI:Hid (IB q f sc sd sn si w1):=hA.2.blk HI.o (by omega)
 have GA:=hdd ((After2.start (q:=q) HP.o).trans hA)
 clear hA
 clear HI
 revert GI GA;intro HI HA
 go_wp2_with fail
 refine (name_any E b s1 _ HA.o.1).mono ?_
 rw [H2.o]
 rintro e w2 ⟨rfl,hA⟩
 have GI:Hid (IB q f sc sd sn si w2):=hA.2.blk HI.o (by omega)
 have GA:=hdd (HA.o.trans hA)
 clear hA
 clear HI
 clear HA
 revert GI GA;intro HI HA
 have k_3:w2.cell? ⟨q,3,none⟩=some (.string ⟨f.of_.toArray⟩):=jq0 HI.o 3
 have f_3:w2.frozen? ⟨q,3,none⟩=false:=jq1 HI.o 3
 have k_5:w2.cell? ⟨q,5,none⟩=some (.int .i64 (f.word:Int)):=jq0 HI.o 5
 have f_5:w2.frozen? ⟨q,5,none⟩=false:=jq1 HI.o 5
 go_wp2_with fail
 refine (jz3 E b s2 [97,115,115,105,103,110,115] _ (((HA.o.set (i:=3) hq (.string ⟨[110,97,116,117,114,101].toArray⟩)).set (i:=3) hq (.string ⟨[].toArray⟩)).set (i:=5) hq (.int .i64 (1:Int))).1 (nd_of (by decide))).mono ?_
 rw [acc_isT H3.o]
 rintro e w3 ⟨rfl,m3,rfl⟩
 go_wp2_with fail
 refine (jz3 E b s2 [110,111,118,97,116,101,115] _ ((((HA.o.set (i:=3) hq (.string ⟨[110,97,116,117,114,101].toArray⟩)).set (i:=3) hq (.string ⟨[].toArray⟩)).set (i:=5) hq (.int .i64 (1:Int))).drewN m3).1 (nd_of (by decide))).mono ?_
 rw [acc_isT H4.o]
 rintro e w4 ⟨rfl,m4,rfl⟩
 go_wp2_with fail
 refine (jx8 E b s2 [97,115,115,105,103,110,115] _ (((((HA.o.set (i:=3) hq (.string ⟨[110,97,116,117,114,101].toArray⟩)).set (i:=3) hq (.string ⟨[].toArray⟩)).set (i:=5) hq (.int .i64 (1:Int))).drewN (m3+m4)).set (i:=5) hq (.int .i64 (3:Int))).1 (nd_of (by decide))).mono ?_
 rw [H3.o]
 rintro e w5 ⟨rfl,hA⟩
 have GI:Hid (IB q {f with of_:= [],word:=3} sc sd sn si w5):=hA.2.blk (IB.set_word (jx2 (IB.set_word (IB.set_of_ (IB.set_of_ HI.o [110,97,116,117,114,101]) []) 1) (m3+m4)) 3) (by omega)
 have GA:=hdd ((((((HA.o.set (i:=3) hq (.string ⟨[110,97,116,117,114,101].toArray⟩)).set (i:=3) hq (.string ⟨[].toArray⟩)).set (i:=5) hq (.int .i64 (1:Int))).drewN (m3+m4)).set (i:=5) hq (.int .i64 (3:Int))).trans hA)
 clear hA
 try clear k_3 f_3 k_5 f_5
 clear HI
 clear HA
 revert GI GA;intro HI HA
 go_wp2_with fail
 refine (jx3 E b s2 [110,111,118,97,116,101,115] _ HA.o.1 (nd_of (by decide))).mono ?_
 rw [exp_of_acc H4.o]
 rintro e w6 ⟨rfl,hA⟩
 have GI:Hid (IB q {f with of_:= [],word:=3} sc sd sn si w6):=hA.2.blk HI.o (by omega)
 have GA:=hdd (HA.o.trans hA)
 clear hA
 clear HI
 clear HA
 revert GI GA;intro HI HA
 go_wp2_with fail
 refine (name_any E b s4 _ HA.o.1).mono ?_
 rw [H5.o]
 rintro e w7 ⟨rfl,hA⟩
 have GI:Hid (IB q {f with of_:= [],word:=3} sc sd sn si w7):=hA.2.blk HI.o (by omega)
 have GA:=hdd (HA.o.trans hA)
 clear hA
 clear HI
 clear HA
 revert GI GA;intro HI HA
 have k_21:w7.cell? ⟨q,21,none⟩=some (.string ⟨f.give.toArray⟩):=jq0 HI.o 21
 have f_21:w7.frozen? ⟨q,21,none⟩=false:=jq1 HI.o 21
 go_wp2_with fail
 refine (jx3 E b s5 [116,111] _ (HA.o.set (i:=21) hq (.string ⟨g.toArray⟩)).1 (nd_of (by decide))).mono ?_
 rw [H6.o]
 rintro e w8 ⟨rfl,hA⟩
 have GI:Hid (IB q {f with of_:= [],word:=3,give:=g} sc sd sn si w8):=hA.2.blk (IB.set_give HI.o g) (by omega)
 have GA:=hdd ((HA.o.set (i:=21) hq (.string ⟨g.toArray⟩)).trans hA)
 clear hA
 try clear k_21 f_21
 clear HI
 clear HA
 revert GI GA;intro HI HA
 go_wp2_with fail
 refine (name_any E b s6 _ HA.o.1).mono ?_
 rw [H7.o]
 rintro e w9 ⟨rfl,hA⟩
 have GI:Hid (IB q {f with of_:= [],word:=3,give:=g} sc sd sn si w9):=hA.2.blk HI.o (by omega)
 have GA:=hdd (HA.o.trans hA)
 clear hA
 clear HI
 clear HA
 revert GI GA;intro HI HA
 have k_22:w9.cell? ⟨q,22,none⟩=some (.string ⟨f.to_.toArray⟩):=jq0 HI.o 22
 have f_22:w9.frozen? ⟨q,22,none⟩=false:=jq1 HI.o 22
 go_wp2_with fail
 refine (jx3 E b s7 [59] _ (HA.o.set (i:=22) hq (.string ⟨t.toArray⟩)).1 (nd_of (by decide))).mono ?_
 rw [H8.o]
 rintro e w10 ⟨rfl,hA⟩
 have GI:Hid (IB q {f with of_:= [],word:=3,give:=g,to_:=t} sc sd sn si w10):=hA.2.blk (IB.set_to_ HI.o t) (by omega)
 have GA:=hdd ((HA.o.set (i:=22) hq (.string ⟨t.toArray⟩)).trans hA)
 clear hA
 try clear k_22 f_22
 clear HI
 clear HA
 revert GI GA;intro HI HA
 go_wp2_with fail
 first|go_end0|refine bodyPost_ret (results_none rfl _ _ _) rfl ?_
 exact ⟨rfl,HI.o,HA.o⟩
theorem act_p3 (E:Env) (b:Nat) (s:St) (W:World) (h:PW E b s W) (q:Nat) (f:Flat) (sc sd sn si:Value) (hI:IB q f sc sd sn si W) (hq:b<q) (u1:Unit) (s1:St) (o:Bytes) (s2:St) (s5:St) (r:Ratio) (s6:St) (u:Bytes) (s7:St) (s8:St) (t:Bytes) (s9:St) (u10:Unit) (s10:St) (h1:expect [[98,121]] s=(u1,s1)) (h2:name s1=(o,s2)) (hn:o= [110,97,116,117,114,101]) (h3:acc [97,115,115,105,103,110,115] s2=(false,s2)) (h4:acc [110,111,118,97,116,101,115] s2=(false,s2)) (h5:acc [109,111,118,101,115] s2=(true,s5)) (h6:Pr.ratio s5=(r,s6)) (h7:name s6=(u,s7)) (h8:acc [116,111] s7=(true,s8)) (h9:name s8=(t,s9)) (h10:expect [[59]] s9=(u10,s10)):
  Calls Tryd.prog 50 #[.pointer (some ⟨b,0,none⟩),.pointer (some ⟨q,0,none⟩)] W fun e w'=>e= .returned (.tuple #[])∧IB q {f with of_:= [],word:=1,num:=r,unit:=u,to_:=t} sc sd sn si w'∧After2 E b q s10 W w':=by
 have HP:=hdd h;clear h
 have HI:=hdd hI;clear hI
 have H1:=hdd h1;clear h1
 have H2:=hdd h2;clear h2
 subst hn
 have H3:=hdd h3;clear h3
 have H4:=hdd h4;clear h4
 have H5:=hdd h5;clear h5
 have H6:=hdd h6;clear h6
 have H7:=hdd h7;clear h7
 have H8:=hdd h8;clear h8
 have H9:=hdd h9;clear h9
 have H10:=hdd h10;clear h10
 go_enter Tryd.func50,Tryd.ntmps50
 go_wp2_with fail
 refine (jx3 E b s [98,121] _ (After2.start (q:=q) HP.o).1 (nd_of (by decide))).mono ?_
 rw [H1.o]
 rintro e w1 ⟨rfl,hA⟩
 have GI:Hid (IB q f sc sd sn si w1):=hA.2.blk HI.o (by omega)
 have GA:=hdd ((After2.start (q:=q) HP.o).trans hA)
 clear hA
 clear HI
 revert GI GA;intro HI HA
 go_wp2_with fail
 refine (name_any E b s1 _ HA.o.1).mono ?_
 rw [H2.o]
 rintro e w2 ⟨rfl,hA⟩
 have GI:Hid (IB q f sc sd sn si w2):=hA.2.blk HI.o (by omega)
 have GA:=hdd (HA.o.trans hA)
 clear hA
 clear HI
 clear HA
 revert GI GA;intro HI HA
 have k_3:w2.cell? ⟨q,3,none⟩=some (.string ⟨f.of_.toArray⟩):=jq0 HI.o 3
 have f_3:w2.frozen? ⟨q,3,none⟩=false:=jq1 HI.o 3
 have k_5:w2.cell? ⟨q,5,none⟩=some (.int .i64 (f.word:Int)):=jq0 HI.o 5
 have f_5:w2.frozen? ⟨q,5,none⟩=false:=jq1 HI.o 5
 go_wp2_with fail
 refine (jz3 E b s2 [97,115,115,105,103,110,115] _ (((HA.o.set (i:=3) hq (.string ⟨[110,97,116,117,114,101].toArray⟩)).set (i:=3) hq (.string ⟨[].toArray⟩)).set (i:=5) hq (.int .i64 (1:Int))).1 (nd_of (by decide))).mono ?_
 rw [acc_isT H3.o]
 rintro e w3 ⟨rfl,m3,rfl⟩
 go_wp2_with fail
 refine (jz3 E b s2 [110,111,118,97,116,101,115] _ ((((HA.o.set (i:=3) hq (.string ⟨[110,97,116,117,114,101].toArray⟩)).set (i:=3) hq (.string ⟨[].toArray⟩)).set (i:=5) hq (.int .i64 (1:Int))).drewN m3).1 (nd_of (by decide))).mono ?_
 rw [acc_isT H4.o]
 rintro e w4 ⟨rfl,m4,rfl⟩
 go_wp2_with fail
 refine (jx8 E b s2 [109,111,118,101,115] _ ((((HA.o.set (i:=3) hq (.string ⟨[110,97,116,117,114,101].toArray⟩)).set (i:=3) hq (.string ⟨[].toArray⟩)).set (i:=5) hq (.int .i64 (1:Int))).drewN (m3+m4)).1 (nd_of (by decide))).mono ?_
 rw [H5.o]
 rintro e w5 ⟨rfl,hA⟩
 have GI:Hid (IB q {f with of_:= [],word:=1} sc sd sn si w5):=hA.2.blk (jx2 (IB.set_word (IB.set_of_ (IB.set_of_ HI.o [110,97,116,117,114,101]) []) 1) (m3+m4)) (by omega)
 have GA:=hdd (((((HA.o.set (i:=3) hq (.string ⟨[110,97,116,117,114,101].toArray⟩)).set (i:=3) hq (.string ⟨[].toArray⟩)).set (i:=5) hq (.int .i64 (1:Int))).drewN (m3+m4)).trans hA)
 clear hA
 try clear k_3 f_3 k_5 f_5
 clear HI
 clear HA
 revert GI GA;intro HI HA
 go_wp2_with fail
 refine (ratio_any E b s5 _ HA.o.1).mono ?_
 rw [H6.o]
 rintro e w6 ⟨rfl,hA⟩
 have GI:Hid (IB q {f with of_:= [],word:=1} sc sd sn si w6):=hA.2.blk HI.o (by omega)
 have GA:=hdd (HA.o.trans hA)
 clear hA
 clear HI
 clear HA
 revert GI GA;intro HI HA
 have k_16:w6.cell? ⟨q,16,none⟩=some (.int .i64 (f.num.num:Int)):=jq0 HI.o 16
 have f_16:w6.frozen? ⟨q,16,none⟩=false:=jq1 HI.o 16
 have k_17:w6.cell? ⟨q,17,none⟩=some (.int .i64 (f.num.den:Int)):=jq0 HI.o 17
 have f_17:w6.frozen? ⟨q,17,none⟩=false:=jq1 HI.o 17
 go_wp2_with fail
 refine (name_any E b s6 _ ((HA.o.set (i:=16) hq (.int .i64 (r.num:Int))).set (i:=17) hq (.int .i64 (r.den:Int))).1).mono ?_
 rw [H7.o]
 rintro e w7 ⟨rfl,hA⟩
 have GI:Hid (IB q {f with of_:= [],word:=1,num:=r} sc sd sn si w7):=hA.2.blk (IB.set_num HI.o r) (by omega)
 have GA:=hdd (((HA.o.set (i:=16) hq (.int .i64 (r.num:Int))).set (i:=17) hq (.int .i64 (r.den:Int))).trans hA)
 clear hA
 try clear k_16 f_16 k_17 f_17
 clear HI
 clear HA
 revert GI GA;intro HI HA
 have k_18:w7.cell? ⟨q,18,none⟩=some (.string ⟨f.unit.toArray⟩):=jq0 HI.o 18
 have f_18:w7.frozen? ⟨q,18,none⟩=false:=jq1 HI.o 18
 go_wp2_with fail
 refine (jx8 E b s7 [116,111] _ (HA.o.set (i:=18) hq (.string ⟨u.toArray⟩)).1 (nd_of (by decide))).mono ?_
 rw [H8.o]
 rintro e w8 ⟨rfl,hA⟩
 have GI:Hid (IB q {f with of_:= [],word:=1,num:=r,unit:=u} sc sd sn si w8):=hA.2.blk (IB.set_unit HI.o u) (by omega)
 have GA:=hdd ((HA.o.set (i:=18) hq (.string ⟨u.toArray⟩)).trans hA)
 clear hA
 try clear k_18 f_18
 clear HI
 clear HA
 revert GI GA;intro HI HA
 go_wp2_with fail
 refine (name_any E b s8 _ HA.o.1).mono ?_
 rw [H9.o]
 rintro e w9 ⟨rfl,hA⟩
 have GI:Hid (IB q {f with of_:= [],word:=1,num:=r,unit:=u} sc sd sn si w9):=hA.2.blk HI.o (by omega)
 have GA:=hdd (HA.o.trans hA)
 clear hA
 clear HI
 clear HA
 revert GI GA;intro HI HA
 have k_22:w9.cell? ⟨q,22,none⟩=some (.string ⟨f.to_.toArray⟩):=jq0 HI.o 22
 have f_22:w9.frozen? ⟨q,22,none⟩=false:=jq1 HI.o 22
 go_wp2_with fail
 refine (jx3 E b s9 [59] _ (HA.o.set (i:=22) hq (.string ⟨t.toArray⟩)).1 (nd_of (by decide))).mono ?_
 rw [H10.o]
 rintro e w10 ⟨rfl,hA⟩
 have GI:Hid (IB q {f with of_:= [],word:=1,num:=r,unit:=u,to_:=t} sc sd sn si w10):=hA.2.blk (IB.set_to_ HI.o t) (by omega)
 have GA:=hdd ((HA.o.set (i:=22) hq (.string ⟨t.toArray⟩)).trans hA)
 clear hA
 try clear k_22 f_22
 clear HI
 clear HA
 revert GI GA;intro HI HA
 go_wp2_with fail
 first|go_end0|refine bodyPost_ret (results_none rfl _ _ _) rfl ?_
 exact ⟨rfl,HI.o,HA.o⟩
theorem act_p4 (E:Env) (b:Nat) (s:St) (W:World) (h:PW E b s W) (q:Nat) (f:Flat) (sc sd sn si:Value) (hI:IB q f sc sd sn si W) (hq:b<q) (u1:Unit) (s1:St) (o:Bytes) (s2:St) (s5:St) (r:Ratio) (s6:St) (u:Bytes) (s7:St) (u9:Unit) (s9:St) (h1:expect [[98,121]] s=(u1,s1)) (h2:name s1=(o,s2)) (hn:o= [110,97,116,117,114,101]) (h3:acc [97,115,115,105,103,110,115] s2=(false,s2)) (h4:acc [110,111,118,97,116,101,115] s2=(false,s2)) (h5:acc [109,111,118,101,115] s2=(true,s5)) (h6:Pr.ratio s5=(r,s6)) (h7:name s6=(u,s7)) (h8:acc [116,111] s7=(false,s7)) (h9:expect [[59]] s7=(u9,s9)):
  Calls Tryd.prog 50 #[.pointer (some ⟨b,0,none⟩),.pointer (some ⟨q,0,none⟩)] W fun e w'=>e= .returned (.tuple #[])∧IB q {f with of_:= [],word:=1,num:=r,unit:=u} sc sd sn si w'∧After2 E b q s9 W w':=by
 have HP:=hdd h;clear h
 have HI:=hdd hI;clear hI
 have H1:=hdd h1;clear h1
 have H2:=hdd h2;clear h2
 subst hn
 have H3:=hdd h3;clear h3
 have H4:=hdd h4;clear h4
 have H5:=hdd h5;clear h5
 have H6:=hdd h6;clear h6
 have H7:=hdd h7;clear h7
 have H8:=hdd h8;clear h8
 have H9:=hdd h9;clear h9
 go_enter Tryd.func50,Tryd.ntmps50
 go_wp2_with fail
 refine (jx3 E b s [98,121] _ (After2.start (q:=q) HP.o).1 (nd_of (by decide))).mono ?_
 rw [H1.o]
 rintro e w1 ⟨rfl,hA⟩
 have GI:Hid (IB q f sc sd sn si w1):=hA.2.blk HI.o (by omega)
 have GA:=hdd ((After2.start (q:=q) HP.o).trans hA)
 clear hA
 clear HI
 revert GI GA;intro HI HA
 go_wp2_with fail
 refine (name_any E b s1 _ HA.o.1).mono ?_
 rw [H2.o]
 rintro e w2 ⟨rfl,hA⟩
 have GI:Hid (IB q f sc sd sn si w2):=hA.2.blk HI.o (by omega)
 have GA:=hdd (HA.o.trans hA)
 clear hA
 clear HI
 clear HA
 revert GI GA;intro HI HA
 have k_3:w2.cell? ⟨q,3,none⟩=some (.string ⟨f.of_.toArray⟩):=jq0 HI.o 3
 have f_3:w2.frozen? ⟨q,3,none⟩=false:=jq1 HI.o 3
 have k_5:w2.cell? ⟨q,5,none⟩=some (.int .i64 (f.word:Int)):=jq0 HI.o 5
 have f_5:w2.frozen? ⟨q,5,none⟩=false:=jq1 HI.o 5
 go_wp2_with fail
 refine (jz3 E b s2 [97,115,115,105,103,110,115] _ (((HA.o.set (i:=3) hq (.string ⟨[110,97,116,117,114,101].toArray⟩)).set (i:=3) hq (.string ⟨[].toArray⟩)).set (i:=5) hq (.int .i64 (1:Int))).1 (nd_of (by decide))).mono ?_
 rw [acc_isT H3.o]
 rintro e w3 ⟨rfl,m3,rfl⟩
 go_wp2_with fail
 refine (jz3 E b s2 [110,111,118,97,116,101,115] _ ((((HA.o.set (i:=3) hq (.string ⟨[110,97,116,117,114,101].toArray⟩)).set (i:=3) hq (.string ⟨[].toArray⟩)).set (i:=5) hq (.int .i64 (1:Int))).drewN m3).1 (nd_of (by decide))).mono ?_
 rw [acc_isT H4.o]
 rintro e w4 ⟨rfl,m4,rfl⟩
 go_wp2_with fail
 refine (jx8 E b s2 [109,111,118,101,115] _ ((((HA.o.set (i:=3) hq (.string ⟨[110,97,116,117,114,101].toArray⟩)).set (i:=3) hq (.string ⟨[].toArray⟩)).set (i:=5) hq (.int .i64 (1:Int))).drewN (m3+m4)).1 (nd_of (by decide))).mono ?_
 rw [H5.o]
 rintro e w5 ⟨rfl,hA⟩
 have GI:Hid (IB q {f with of_:= [],word:=1} sc sd sn si w5):=hA.2.blk (jx2 (IB.set_word (IB.set_of_ (IB.set_of_ HI.o [110,97,116,117,114,101]) []) 1) (m3+m4)) (by omega)
 have GA:=hdd (((((HA.o.set (i:=3) hq (.string ⟨[110,97,116,117,114,101].toArray⟩)).set (i:=3) hq (.string ⟨[].toArray⟩)).set (i:=5) hq (.int .i64 (1:Int))).drewN (m3+m4)).trans hA)
 clear hA
 try clear k_3 f_3 k_5 f_5
 clear HI
 clear HA
 revert GI GA;intro HI HA
 go_wp2_with fail
 refine (ratio_any E b s5 _ HA.o.1).mono ?_
 rw [H6.o]
 rintro e w6 ⟨rfl,hA⟩
 have GI:Hid (IB q {f with of_:= [],word:=1} sc sd sn si w6):=hA.2.blk HI.o (by omega)
 have GA:=hdd (HA.o.trans hA)
 clear hA
 clear HI
 clear HA
 revert GI GA;intro HI HA
 have k_16:w6.cell? ⟨q,16,none⟩=some (.int .i64 (f.num.num:Int)):=jq0 HI.o 16
 have f_16:w6.frozen? ⟨q,16,none⟩=false:=jq1 HI.o 16
 have k_17:w6.cell? ⟨q,17,none⟩=some (.int .i64 (f.num.den:Int)):=jq0 HI.o 17
 have f_17:w6.frozen? ⟨q,17,none⟩=false:=jq1 HI.o 17
 go_wp2_with fail
 refine (name_any E b s6 _ ((HA.o.set (i:=16) hq (.int .i64 (r.num:Int))).set (i:=17) hq (.int .i64 (r.den:Int))).1).mono ?_
 rw [H7.o]
 rintro e w7 ⟨rfl,hA⟩
 have GI:Hid (IB q {f with of_:= [],word:=1,num:=r} sc sd sn si w7):=hA.2.blk (IB.set_num HI.o r) (by omega)
 have GA:=hdd (((HA.o.set (i:=16) hq (.int .i64 (r.num:Int))).set (i:=17) hq (.int .i64 (r.den:Int))).trans hA)
 clear hA
 try clear k_16 f_16 k_17 f_17
 clear HI
 clear HA
 revert GI GA;intro HI HA
 have k_18:w7.cell? ⟨q,18,none⟩=some (.string ⟨f.unit.toArray⟩):=jq0 HI.o 18
 have f_18:w7.frozen? ⟨q,18,none⟩=false:=jq1 HI.o 18
 go_wp2_with fail
 refine (jx8 E b s7 [116,111] _ (HA.o.set (i:=18) hq (.string ⟨u.toArray⟩)).1 (nd_of (by decide))).mono ?_
 rw [H8.o]
 rintro e w8 ⟨rfl,hA⟩
 have GI:Hid (IB q {f with of_:= [],word:=1,num:=r,unit:=u} sc sd sn si w8):=hA.2.blk (IB.set_unit HI.o u) (by omega)
 have GA:=hdd ((HA.o.set (i:=18) hq (.string ⟨u.toArray⟩)).trans hA)
 clear hA
 try clear k_18 f_18
 clear HI
 clear HA
 revert GI GA;intro HI HA
 go_wp2_with fail
 refine (jx3 E b s7 [59] _ HA.o.1 (nd_of (by decide))).mono ?_
 rw [H9.o]
 rintro e w9 ⟨rfl,hA⟩
 have GI:Hid (IB q {f with of_:= [],word:=1,num:=r,unit:=u} sc sd sn si w9):=hA.2.blk HI.o (by omega)
 have GA:=hdd (HA.o.trans hA)
 clear hA
 clear HI
 clear HA
 revert GI GA;intro HI HA
 go_wp2_with fail
 first|go_end0|refine bodyPost_ret (results_none rfl _ _ _) rfl ?_
 exact ⟨rfl,HI.o,HA.o⟩
theorem act_p5 (E:Env) (b:Nat) (s:St) (W:World) (h:PW E b s W) (q:Nat) (f:Flat) (sc sd sn si:Value) (hI:IB q f sc sd sn si W) (hq:b<q) (u1:Unit) (s1:St) (o:Bytes) (s2:St) (s6:St) (t:Bytes) (s7:St) (u8:Unit) (s8:St) (h1:expect [[98,121]] s=(u1,s1)) (h2:name s1=(o,s2)) (hn:o= [110,97,116,117,114,101]) (h3:acc [97,115,115,105,103,110,115] s2=(false,s2)) (h4:acc [110,111,118,97,116,101,115] s2=(false,s2)) (h5:acc [109,111,118,101,115] s2=(false,s2)) (h6:acc [116,111] s2=(true,s6)) (h7:name s6=(t,s7)) (h8:expect [[59]] s7=(u8,s8)):
  Calls Tryd.prog 50 #[.pointer (some ⟨b,0,none⟩),.pointer (some ⟨q,0,none⟩)] W fun e w'=>e= .returned (.tuple #[])∧IB q {f with of_:= [],word:=1,to_:=t} sc sd sn si w'∧After2 E b q s8 W w':=by
 have HP:=hdd h;clear h
 have HI:=hdd hI;clear hI
 have H1:=hdd h1;clear h1
 have H2:=hdd h2;clear h2
 subst hn
 have H3:=hdd h3;clear h3
 have H4:=hdd h4;clear h4
 have H5:=hdd h5;clear h5
 have H6:=hdd h6;clear h6
 have H7:=hdd h7;clear h7
 have H8:=hdd h8;clear h8
 go_enter Tryd.func50,Tryd.ntmps50
 go_wp2_with fail
 refine (jx3 E b s [98,121] _ (After2.start (q:=q) HP.o).1 (nd_of (by decide))).mono ?_
 rw [H1.o]
 rintro e w1 ⟨rfl,hA⟩
 have GI:Hid (IB q f sc sd sn si w1):=hA.2.blk HI.o (by omega)
 have GA:=hdd ((After2.start (q:=q) HP.o).trans hA)
 clear hA
 clear HI
 revert GI GA;intro HI HA
 go_wp2_with fail
 refine (name_any E b s1 _ HA.o.1).mono ?_
 rw [H2.o]
 rintro e w2 ⟨rfl,hA⟩
 have GI:Hid (IB q f sc sd sn si w2):=hA.2.blk HI.o (by omega)
 have GA:=hdd (HA.o.trans hA)
 clear hA
 clear HI
 clear HA
 revert GI GA;intro HI HA
 have k_3:w2.cell? ⟨q,3,none⟩=some (.string ⟨f.of_.toArray⟩):=jq0 HI.o 3
 have f_3:w2.frozen? ⟨q,3,none⟩=false:=jq1 HI.o 3
 have k_5:w2.cell? ⟨q,5,none⟩=some (.int .i64 (f.word:Int)):=jq0 HI.o 5
 have f_5:w2.frozen? ⟨q,5,none⟩=false:=jq1 HI.o 5
 go_wp2_with fail
 refine (jz3 E b s2 [97,115,115,105,103,110,115] _ (((HA.o.set (i:=3) hq (.string ⟨[110,97,116,117,114,101].toArray⟩)).set (i:=3) hq (.string ⟨[].toArray⟩)).set (i:=5) hq (.int .i64 (1:Int))).1 (nd_of (by decide))).mono ?_
 rw [acc_isT H3.o]
 rintro e w3 ⟨rfl,m3,rfl⟩
 go_wp2_with fail
 refine (jz3 E b s2 [110,111,118,97,116,101,115] _ ((((HA.o.set (i:=3) hq (.string ⟨[110,97,116,117,114,101].toArray⟩)).set (i:=3) hq (.string ⟨[].toArray⟩)).set (i:=5) hq (.int .i64 (1:Int))).drewN m3).1 (nd_of (by decide))).mono ?_
 rw [acc_isT H4.o]
 rintro e w4 ⟨rfl,m4,rfl⟩
 go_wp2_with fail
 refine (jx8 E b s2 [109,111,118,101,115] _ ((((HA.o.set (i:=3) hq (.string ⟨[110,97,116,117,114,101].toArray⟩)).set (i:=3) hq (.string ⟨[].toArray⟩)).set (i:=5) hq (.int .i64 (1:Int))).drewN (m3+m4)).1 (nd_of (by decide))).mono ?_
 rw [H5.o]
 rintro e w5 ⟨rfl,hA⟩
 have GI:Hid (IB q {f with of_:= [],word:=1} sc sd sn si w5):=hA.2.blk (jx2 (IB.set_word (IB.set_of_ (IB.set_of_ HI.o [110,97,116,117,114,101]) []) 1) (m3+m4)) (by omega)
 have GA:=hdd (((((HA.o.set (i:=3) hq (.string ⟨[110,97,116,117,114,101].toArray⟩)).set (i:=3) hq (.string ⟨[].toArray⟩)).set (i:=5) hq (.int .i64 (1:Int))).drewN (m3+m4)).trans hA)
 clear hA
 try clear k_3 f_3 k_5 f_5
 clear HI
 clear HA
 revert GI GA;intro HI HA
 go_wp2_with fail
 refine (jx8 E b s2 [116,111] _ HA.o.1 (nd_of (by decide))).mono ?_
 rw [H6.o]
 rintro e w6 ⟨rfl,hA⟩
 have GI:Hid (IB q {f with of_:= [],word:=1} sc sd sn si w6):=hA.2.blk HI.o (by omega)
 have GA:=hdd (HA.o.trans hA)
 clear hA
 clear HI
 clear HA
 revert GI GA;intro HI HA
 go_wp2_with fail
 refine (name_any E b s6 _ HA.o.1).mono ?_
 rw [H7.o]
 rintro e w7 ⟨rfl,hA⟩
 have GI:Hid (IB q {f with of_:= [],word:=1} sc sd sn si w7):=hA.2.blk HI.o (by omega)
 have GA:=hdd (HA.o.trans hA)
 clear hA
 clear HI
 clear HA
 revert GI GA;intro HI HA
 have k_22:w7.cell? ⟨q,22,none⟩=some (.string ⟨f.to_.toArray⟩):=jq0 HI.o 22
 have f_22:w7.frozen? ⟨q,22,none⟩=false:=jq1 HI.o 22
 go_wp2_with fail
 refine (jx3 E b s7 [59] _ (HA.o.set (i:=22) hq (.string ⟨t.toArray⟩)).1 (nd_of (by decide))).mono ?_
 rw [H8.o]
 rintro e w8 ⟨rfl,hA⟩
 have GI:Hid (IB q {f with of_:= [],word:=1,to_:=t} sc sd sn si w8):=hA.2.blk (IB.set_to_ HI.o t) (by omega)
 have GA:=hdd ((HA.o.set (i:=22) hq (.string ⟨t.toArray⟩)).trans hA)
 clear hA
 try clear k_22 f_22
 clear HI
 clear HA
 revert GI GA;intro HI HA
 go_wp2_with fail
 first|go_end0|refine bodyPost_ret (results_none rfl _ _ _) rfl ?_
 exact ⟨rfl,HI.o,HA.o⟩
theorem act_p6 (E:Env) (b:Nat) (s:St) (W:World) (h:PW E b s W) (q:Nat) (f:Flat) (sc sd sn si:Value) (hI:IB q f sc sd sn si W) (hq:b<q) (u1:Unit) (s1:St) (o:Bytes) (s2:St) (u7:Unit) (s7:St) (h1:expect [[98,121]] s=(u1,s1)) (h2:name s1=(o,s2)) (hn:o= [110,97,116,117,114,101]) (h3:acc [97,115,115,105,103,110,115] s2=(false,s2)) (h4:acc [110,111,118,97,116,101,115] s2=(false,s2)) (h5:acc [109,111,118,101,115] s2=(false,s2)) (h6:acc [116,111] s2=(false,s2)) (h7:expect [[59]] s2=(u7,s7)):
  Calls Tryd.prog 50 #[.pointer (some ⟨b,0,none⟩),.pointer (some ⟨q,0,none⟩)] W fun e w'=>e= .returned (.tuple #[])∧IB q {f with of_:= [],word:=1} sc sd sn si w'∧After2 E b q s7 W w':=by
 have HP:=hdd h;clear h
 have HI:=hdd hI;clear hI
 have H1:=hdd h1;clear h1
 have H2:=hdd h2;clear h2
 subst hn
 have H3:=hdd h3;clear h3
 have H4:=hdd h4;clear h4
 have H5:=hdd h5;clear h5
 have H6:=hdd h6;clear h6
 have H7:=hdd h7;clear h7
 go_enter Tryd.func50,Tryd.ntmps50
 go_wp2_with fail
 refine (jx3 E b s [98,121] _ (After2.start (q:=q) HP.o).1 (nd_of (by decide))).mono ?_
 rw [H1.o]
 rintro e w1 ⟨rfl,hA⟩
 have GI:Hid (IB q f sc sd sn si w1):=hA.2.blk HI.o (by omega)
 have GA:=hdd ((After2.start (q:=q) HP.o).trans hA)
 clear hA
 clear HI
 revert GI GA;intro HI HA
 go_wp2_with fail
 refine (name_any E b s1 _ HA.o.1).mono ?_
 rw [H2.o]
 rintro e w2 ⟨rfl,hA⟩
 have GI:Hid (IB q f sc sd sn si w2):=hA.2.blk HI.o (by omega)
 have GA:=hdd (HA.o.trans hA)
 clear hA
 clear HI
 clear HA
 revert GI GA;intro HI HA
 have k_3:w2.cell? ⟨q,3,none⟩=some (.string ⟨f.of_.toArray⟩):=jq0 HI.o 3
 have f_3:w2.frozen? ⟨q,3,none⟩=false:=jq1 HI.o 3
 have k_5:w2.cell? ⟨q,5,none⟩=some (.int .i64 (f.word:Int)):=jq0 HI.o 5
 have f_5:w2.frozen? ⟨q,5,none⟩=false:=jq1 HI.o 5
 go_wp2_with fail
 refine (jz3 E b s2 [97,115,115,105,103,110,115] _ (((HA.o.set (i:=3) hq (.string ⟨[110,97,116,117,114,101].toArray⟩)).set (i:=3) hq (.string ⟨[].toArray⟩)).set (i:=5) hq (.int .i64 (1:Int))).1 (nd_of (by decide))).mono ?_
 rw [acc_isT H3.o]
 rintro e w3 ⟨rfl,m3,rfl⟩
 go_wp2_with fail
 refine (jz3 E b s2 [110,111,118,97,116,101,115] _ ((((HA.o.set (i:=3) hq (.string ⟨[110,97,116,117,114,101].toArray⟩)).set (i:=3) hq (.string ⟨[].toArray⟩)).set (i:=5) hq (.int .i64 (1:Int))).drewN m3).1 (nd_of (by decide))).mono ?_
 rw [acc_isT H4.o]
 rintro e w4 ⟨rfl,m4,rfl⟩
 go_wp2_with fail
 refine (jx8 E b s2 [109,111,118,101,115] _ ((((HA.o.set (i:=3) hq (.string ⟨[110,97,116,117,114,101].toArray⟩)).set (i:=3) hq (.string ⟨[].toArray⟩)).set (i:=5) hq (.int .i64 (1:Int))).drewN (m3+m4)).1 (nd_of (by decide))).mono ?_
 rw [H5.o]
 rintro e w5 ⟨rfl,hA⟩
 have GI:Hid (IB q {f with of_:= [],word:=1} sc sd sn si w5):=hA.2.blk (jx2 (IB.set_word (IB.set_of_ (IB.set_of_ HI.o [110,97,116,117,114,101]) []) 1) (m3+m4)) (by omega)
 have GA:=hdd (((((HA.o.set (i:=3) hq (.string ⟨[110,97,116,117,114,101].toArray⟩)).set (i:=3) hq (.string ⟨[].toArray⟩)).set (i:=5) hq (.int .i64 (1:Int))).drewN (m3+m4)).trans hA)
 clear hA
 try clear k_3 f_3 k_5 f_5
 clear HI
 clear HA
 revert GI GA;intro HI HA
 go_wp2_with fail
 refine (jx8 E b s2 [116,111] _ HA.o.1 (nd_of (by decide))).mono ?_
 rw [H6.o]
 rintro e w6 ⟨rfl,hA⟩
 have GI:Hid (IB q {f with of_:= [],word:=1} sc sd sn si w6):=hA.2.blk HI.o (by omega)
 have GA:=hdd (HA.o.trans hA)
 clear hA
 clear HI
 clear HA
 revert GI GA;intro HI HA
 go_wp2_with fail
 refine (jx3 E b s2 [59] _ HA.o.1 (nd_of (by decide))).mono ?_
 rw [H7.o]
 rintro e w7 ⟨rfl,hA⟩
 have GI:Hid (IB q {f with of_:= [],word:=1} sc sd sn si w7):=hA.2.blk HI.o (by omega)
 have GA:=hdd (HA.o.trans hA)
 clear hA
 clear HI
 clear HA
 revert GI GA;intro HI HA
 go_wp2_with fail
 first|go_end0|refine bodyPost_ret (results_none rfl _ _ _) rfl ?_
 exact ⟨rfl,HI.o,HA.o⟩
theorem act_p7 (E:Env) (b:Nat) (s:St) (W:World) (h:PW E b s W) (q:Nat) (f:Flat) (sc sd sn si:Value) (hI:IB q f sc sd sn si W) (hq:b<q) (u1:Unit) (s1:St) (o:Bytes) (s2:St) (s3:St) (g:Bytes) (s4:St) (u5:Unit) (s5:St) (t:Bytes) (s6:St) (u7:Unit) (s7:St) (h1:expect [[98,121]] s=(u1,s1)) (h2:name s1=(o,s2)) (hn:(o== [110,97,116,117,114,101])=false) (h3:acc [97,115,115,105,103,110,115] s2=(true,s3)) (h4:name s3=(g,s4)) (h5:expect [[116,111]] s4=(u5,s5)) (h6:name s5=(t,s6)) (h7:expect [[59]] s6=(u7,s7)):
  Calls Tryd.prog 50 #[.pointer (some ⟨b,0,none⟩),.pointer (some ⟨q,0,none⟩)] W fun e w'=>e= .returned (.tuple #[])∧IB q {f with of_:=o,word:=2,give:=g,to_:=t} sc sd sn si w'∧After2 E b q s7 W w':=by
 have HP:=hdd h;clear h
 have HI:=hdd hI;clear hI
 have H1:=hdd h1;clear h1
 have H2:=hdd h2;clear h2
 have H3:=hdd h3;clear h3
 have H4:=hdd h4;clear h4
 have H5:=hdd h5;clear h5
 have H6:=hdd h6;clear h6
 have H7:=hdd h7;clear h7
 go_enter Tryd.func50,Tryd.ntmps50
 go_wp2_with fail
 refine (jx3 E b s [98,121] _ (After2.start (q:=q) HP.o).1 (nd_of (by decide))).mono ?_
 rw [H1.o]
 rintro e w1 ⟨rfl,hA⟩
 have GI:Hid (IB q f sc sd sn si w1):=hA.2.blk HI.o (by omega)
 have GA:=hdd ((After2.start (q:=q) HP.o).trans hA)
 clear hA
 clear HI
 revert GI GA;intro HI HA
 go_wp2_with fail
 refine (name_any E b s1 _ HA.o.1).mono ?_
 rw [H2.o]
 rintro e w2 ⟨rfl,hA⟩
 have GI:Hid (IB q f sc sd sn si w2):=hA.2.blk HI.o (by omega)
 have GA:=hdd (HA.o.trans hA)
 clear hA
 clear HI
 clear HA
 revert GI GA;intro HI HA
 have k_3:w2.cell? ⟨q,3,none⟩=some (.string ⟨f.of_.toArray⟩):=jq0 HI.o 3
 have f_3:w2.frozen? ⟨q,3,none⟩=false:=jq1 HI.o 3
 have k_5:w2.cell? ⟨q,5,none⟩=some (.int .i64 (f.word:Int)):=jq0 HI.o 5
 have f_5:w2.frozen? ⟨q,5,none⟩=false:=jq1 HI.o 5
 go_wp2_with fail
 refine (jz3 E b s2 [97,115,115,105,103,110,115] _ ((HA.o.set (i:=3) hq (.string ⟨o.toArray⟩)).set (i:=5) hq (.int .i64 (1:Int))).1 (nd_of (by decide))).mono ?_
 rw [acc_isT H3.o]
 rintro e w3 ⟨rfl,m3,rfl⟩
 go_wp2_with fail
 refine (jx8 E b s2 [97,115,115,105,103,110,115] _ ((((HA.o.set (i:=3) hq (.string ⟨o.toArray⟩)).set (i:=5) hq (.int .i64 (1:Int))).drewN m3).set (i:=5) hq (.int .i64 (3:Int))).1 (nd_of (by decide))).mono ?_
 rw [H3.o]
 rintro e w4 ⟨rfl,hA⟩
 have GI:Hid (IB q {f with of_:=o,word:=3} sc sd sn si w4):=hA.2.blk (IB.set_word (jx2 (IB.set_word (IB.set_of_ HI.o o) 1) m3) 3) (by omega)
 have GA:=hdd (((((HA.o.set (i:=3) hq (.string ⟨o.toArray⟩)).set (i:=5) hq (.int .i64 (1:Int))).drewN m3).set (i:=5) hq (.int .i64 (3:Int))).trans hA)
 clear hA
 try clear k_3 f_3 k_5 f_5
 clear HI
 clear HA
 revert GI GA;intro HI HA
 have k_5:w4.cell? ⟨q,5,none⟩=some (.int .i64 3):=jq0 HI.o 5
 have f_5:w4.frozen? ⟨q,5,none⟩=false:=jq1 HI.o 5
 go_wp2_with fail
 refine (name_any E b s3 _ (HA.o.set (i:=5) hq (.int .i64 (2:Int))).1).mono ?_
 rw [H4.o]
 rintro e w5 ⟨rfl,hA⟩
 have GI:Hid (IB q {f with of_:=o,word:=2} sc sd sn si w5):=hA.2.blk (IB.set_word HI.o 2) (by omega)
 have GA:=hdd ((HA.o.set (i:=5) hq (.int .i64 (2:Int))).trans hA)
 clear hA
 try clear k_5 f_5
 clear HI
 clear HA
 revert GI GA;intro HI HA
 have k_21:w5.cell? ⟨q,21,none⟩=some (.string ⟨f.give.toArray⟩):=jq0 HI.o 21
 have f_21:w5.frozen? ⟨q,21,none⟩=false:=jq1 HI.o 21
 go_wp2_with fail
 refine (jx3 E b s4 [116,111] _ (HA.o.set (i:=21) hq (.string ⟨g.toArray⟩)).1 (nd_of (by decide))).mono ?_
 rw [H5.o]
 rintro e w6 ⟨rfl,hA⟩
 have GI:Hid (IB q {f with of_:=o,word:=2,give:=g} sc sd sn si w6):=hA.2.blk (IB.set_give HI.o g) (by omega)
 have GA:=hdd ((HA.o.set (i:=21) hq (.string ⟨g.toArray⟩)).trans hA)
 clear hA
 try clear k_21 f_21
 clear HI
 clear HA
 revert GI GA;intro HI HA
 go_wp2_with fail
 refine (name_any E b s5 _ HA.o.1).mono ?_
 rw [H6.o]
 rintro e w7 ⟨rfl,hA⟩
 have GI:Hid (IB q {f with of_:=o,word:=2,give:=g} sc sd sn si w7):=hA.2.blk HI.o (by omega)
 have GA:=hdd (HA.o.trans hA)
 clear hA
 clear HI
 clear HA
 revert GI GA;intro HI HA
 have k_22:w7.cell? ⟨q,22,none⟩=some (.string ⟨f.to_.toArray⟩):=jq0 HI.o 22
 have f_22:w7.frozen? ⟨q,22,none⟩=false:=jq1 HI.o 22
 go_wp2_with fail
 refine (jx3 E b s6 [59] _ (HA.o.set (i:=22) hq (.string ⟨t.toArray⟩)).1 (nd_of (by decide))).mono ?_
 rw [H7.o]
 rintro e w8 ⟨rfl,hA⟩
 have GI:Hid (IB q {f with of_:=o,word:=2,give:=g,to_:=t} sc sd sn si w8):=hA.2.blk (IB.set_to_ HI.o t) (by omega)
 have GA:=hdd ((HA.o.set (i:=22) hq (.string ⟨t.toArray⟩)).trans hA)
 clear hA
 try clear k_22 f_22
 clear HI
 clear HA
 revert GI GA;intro HI HA
 go_wp2_with fail
 first|go_end0|refine bodyPost_ret (results_none rfl _ _ _) rfl ?_
 exact ⟨rfl,HI.o,HA.o⟩
theorem act_p8 (E:Env) (b:Nat) (s:St) (W:World) (h:PW E b s W) (q:Nat) (f:Flat) (sc sd sn si:Value) (hI:IB q f sc sd sn si W) (hq:b<q) (u1:Unit) (s1:St) (o:Bytes) (s2:St) (s4:St) (g:Bytes) (s5:St) (u6:Unit) (s6:St) (t:Bytes) (s7:St) (u8:Unit) (s8:St) (h1:expect [[98,121]] s=(u1,s1)) (h2:name s1=(o,s2)) (hn:(o== [110,97,116,117,114,101])=false) (h3:acc [97,115,115,105,103,110,115] s2=(false,s2)) (h4:acc [110,111,118,97,116,101,115] s2=(true,s4)) (h5:name s4=(g,s5)) (h6:expect [[116,111]] s5=(u6,s6)) (h7:name s6=(t,s7)) (h8:expect [[59]] s7=(u8,s8)):
  Calls Tryd.prog 50 #[.pointer (some ⟨b,0,none⟩),.pointer (some ⟨q,0,none⟩)] W fun e w'=>e= .returned (.tuple #[])∧IB q {f with of_:=o,word:=3,give:=g,to_:=t} sc sd sn si w'∧After2 E b q s8 W w':=by
 have HP:=hdd h;clear h
 have HI:=hdd hI;clear hI
 have H1:=hdd h1;clear h1
 have H2:=hdd h2;clear h2
 have H3:=hdd h3;clear h3
 have H4:=hdd h4;clear h4
 have H5:=hdd h5;clear h5
 have H6:=hdd h6;clear h6
 have H7:=hdd h7;clear h7
 have H8:=hdd h8;clear h8
 go_enter Tryd.func50,Tryd.ntmps50
 go_wp2_with fail
 refine (jx3 E b s [98,121] _ (After2.start (q:=q) HP.o).1 (nd_of (by decide))).mono ?_
 rw [H1.o]
 rintro e w1 ⟨rfl,hA⟩
 have GI:Hid (IB q f sc sd sn si w1):=hA.2.blk HI.o (by omega)
 have GA:=hdd ((After2.start (q:=q) HP.o).trans hA)
 clear hA
 clear HI
 revert GI GA;intro HI HA
 go_wp2_with fail
 refine (name_any E b s1 _ HA.o.1).mono ?_
 rw [H2.o]
 rintro e w2 ⟨rfl,hA⟩
 have GI:Hid (IB q f sc sd sn si w2):=hA.2.blk HI.o (by omega)
 have GA:=hdd (HA.o.trans hA)
 clear hA
 clear HI
 clear HA
 revert GI GA;intro HI HA
 have k_3:w2.cell? ⟨q,3,none⟩=some (.string ⟨f.of_.toArray⟩):=jq0 HI.o 3
 have f_3:w2.frozen? ⟨q,3,none⟩=false:=jq1 HI.o 3
 have k_5:w2.cell? ⟨q,5,none⟩=some (.int .i64 (f.word:Int)):=jq0 HI.o 5
 have f_5:w2.frozen? ⟨q,5,none⟩=false:=jq1 HI.o 5
 go_wp2_with fail
 refine (jz3 E b s2 [97,115,115,105,103,110,115] _ ((HA.o.set (i:=3) hq (.string ⟨o.toArray⟩)).set (i:=5) hq (.int .i64 (1:Int))).1 (nd_of (by decide))).mono ?_
 rw [acc_isT H3.o]
 rintro e w3 ⟨rfl,m3,rfl⟩
 go_wp2_with fail
 refine (jz3 E b s2 [110,111,118,97,116,101,115] _ (((HA.o.set (i:=3) hq (.string ⟨o.toArray⟩)).set (i:=5) hq (.int .i64 (1:Int))).drewN m3).1 (nd_of (by decide))).mono ?_
 rw [acc_isT H4.o]
 rintro e w4 ⟨rfl,m4,rfl⟩
 go_wp2_with fail
 refine (jx8 E b s2 [97,115,115,105,103,110,115] _ ((((HA.o.set (i:=3) hq (.string ⟨o.toArray⟩)).set (i:=5) hq (.int .i64 (1:Int))).drewN (m3+m4)).set (i:=5) hq (.int .i64 (3:Int))).1 (nd_of (by decide))).mono ?_
 rw [H3.o]
 rintro e w5 ⟨rfl,hA⟩
 have GI:Hid (IB q {f with of_:=o,word:=3} sc sd sn si w5):=hA.2.blk (IB.set_word (jx2 (IB.set_word (IB.set_of_ HI.o o) 1) (m3+m4)) 3) (by omega)
 have GA:=hdd (((((HA.o.set (i:=3) hq (.string ⟨o.toArray⟩)).set (i:=5) hq (.int .i64 (1:Int))).drewN (m3+m4)).set (i:=5) hq (.int .i64 (3:Int))).trans hA)
 clear hA
 try clear k_3 f_3 k_5 f_5
 clear HI
 clear HA
 revert GI GA;intro HI HA
 go_wp2_with fail
 refine (jx3 E b s2 [110,111,118,97,116,101,115] _ HA.o.1 (nd_of (by decide))).mono ?_
 rw [exp_of_acc H4.o]
 rintro e w6 ⟨rfl,hA⟩
 have GI:Hid (IB q {f with of_:=o,word:=3} sc sd sn si w6):=hA.2.blk HI.o (by omega)
 have GA:=hdd (HA.o.trans hA)
 clear hA
 clear HI
 clear HA
 revert GI GA;intro HI HA
 go_wp2_with fail
 refine (name_any E b s4 _ HA.o.1).mono ?_
 rw [H5.o]
 rintro e w7 ⟨rfl,hA⟩
 have GI:Hid (IB q {f with of_:=o,word:=3} sc sd sn si w7):=hA.2.blk HI.o (by omega)
 have GA:=hdd (HA.o.trans hA)
 clear hA
 clear HI
 clear HA
 revert GI GA;intro HI HA
 have k_21:w7.cell? ⟨q,21,none⟩=some (.string ⟨f.give.toArray⟩):=jq0 HI.o 21
 have f_21:w7.frozen? ⟨q,21,none⟩=false:=jq1 HI.o 21
 go_wp2_with fail
 refine (jx3 E b s5 [116,111] _ (HA.o.set (i:=21) hq (.string ⟨g.toArray⟩)).1 (nd_of (by decide))).mono ?_
 rw [H6.o]
 rintro e w8 ⟨rfl,hA⟩
 have GI:Hid (IB q {f with of_:=o,word:=3,give:=g} sc sd sn si w8):=hA.2.blk (IB.set_give HI.o g) (by omega)
 have GA:=hdd ((HA.o.set (i:=21) hq (.string ⟨g.toArray⟩)).trans hA)
 clear hA
 try clear k_21 f_21
 clear HI
 clear HA
 revert GI GA;intro HI HA
 go_wp2_with fail
 refine (name_any E b s6 _ HA.o.1).mono ?_
 rw [H7.o]
 rintro e w9 ⟨rfl,hA⟩
 have GI:Hid (IB q {f with of_:=o,word:=3,give:=g} sc sd sn si w9):=hA.2.blk HI.o (by omega)
 have GA:=hdd (HA.o.trans hA)
 clear hA
 clear HI
 clear HA
 revert GI GA;intro HI HA
 have k_22:w9.cell? ⟨q,22,none⟩=some (.string ⟨f.to_.toArray⟩):=jq0 HI.o 22
 have f_22:w9.frozen? ⟨q,22,none⟩=false:=jq1 HI.o 22
 go_wp2_with fail
 refine (jx3 E b s7 [59] _ (HA.o.set (i:=22) hq (.string ⟨t.toArray⟩)).1 (nd_of (by decide))).mono ?_
 rw [H8.o]
 rintro e w10 ⟨rfl,hA⟩
 have GI:Hid (IB q {f with of_:=o,word:=3,give:=g,to_:=t} sc sd sn si w10):=hA.2.blk (IB.set_to_ HI.o t) (by omega)
 have GA:=hdd ((HA.o.set (i:=22) hq (.string ⟨t.toArray⟩)).trans hA)
 clear hA
 try clear k_22 f_22
 clear HI
 clear HA
 revert GI GA;intro HI HA
 go_wp2_with fail
 first|go_end0|refine bodyPost_ret (results_none rfl _ _ _) rfl ?_
 exact ⟨rfl,HI.o,HA.o⟩
theorem act_p9 (E:Env) (b:Nat) (s:St) (W:World) (h:PW E b s W) (q:Nat) (f:Flat) (sc sd sn si:Value) (hI:IB q f sc sd sn si W) (hq:b<q) (u1:Unit) (s1:St) (o:Bytes) (s2:St) (s5:St) (r:Ratio) (s6:St) (u:Bytes) (s7:St) (s8:St) (t:Bytes) (s9:St) (u10:Unit) (s10:St) (h1:expect [[98,121]] s=(u1,s1)) (h2:name s1=(o,s2)) (hn:(o== [110,97,116,117,114,101])=false) (h3:acc [97,115,115,105,103,110,115] s2=(false,s2)) (h4:acc [110,111,118,97,116,101,115] s2=(false,s2)) (h5:acc [109,111,118,101,115] s2=(true,s5)) (h6:Pr.ratio s5=(r,s6)) (h7:name s6=(u,s7)) (h8:acc [116,111] s7=(true,s8)) (h9:name s8=(t,s9)) (h10:expect [[59]] s9=(u10,s10)):
  Calls Tryd.prog 50 #[.pointer (some ⟨b,0,none⟩),.pointer (some ⟨q,0,none⟩)] W fun e w'=>e= .returned (.tuple #[])∧IB q {f with of_:=o,word:=1,num:=r,unit:=u,to_:=t} sc sd sn si w'∧After2 E b q s10 W w':=by
 have HP:=hdd h;clear h
 have HI:=hdd hI;clear hI
 have H1:=hdd h1;clear h1
 have H2:=hdd h2;clear h2
 have H3:=hdd h3;clear h3
 have H4:=hdd h4;clear h4
 have H5:=hdd h5;clear h5
 have H6:=hdd h6;clear h6
 have H7:=hdd h7;clear h7
 have H8:=hdd h8;clear h8
 have H9:=hdd h9;clear h9
 have H10:=hdd h10;clear h10
 go_enter Tryd.func50,Tryd.ntmps50
 go_wp2_with fail
 refine (jx3 E b s [98,121] _ (After2.start (q:=q) HP.o).1 (nd_of (by decide))).mono ?_
 rw [H1.o]
 rintro e w1 ⟨rfl,hA⟩
 have GI:Hid (IB q f sc sd sn si w1):=hA.2.blk HI.o (by omega)
 have GA:=hdd ((After2.start (q:=q) HP.o).trans hA)
 clear hA
 clear HI
 revert GI GA;intro HI HA
 go_wp2_with fail
 refine (name_any E b s1 _ HA.o.1).mono ?_
 rw [H2.o]
 rintro e w2 ⟨rfl,hA⟩
 have GI:Hid (IB q f sc sd sn si w2):=hA.2.blk HI.o (by omega)
 have GA:=hdd (HA.o.trans hA)
 clear hA
 clear HI
 clear HA
 revert GI GA;intro HI HA
 have k_3:w2.cell? ⟨q,3,none⟩=some (.string ⟨f.of_.toArray⟩):=jq0 HI.o 3
 have f_3:w2.frozen? ⟨q,3,none⟩=false:=jq1 HI.o 3
 have k_5:w2.cell? ⟨q,5,none⟩=some (.int .i64 (f.word:Int)):=jq0 HI.o 5
 have f_5:w2.frozen? ⟨q,5,none⟩=false:=jq1 HI.o 5
 go_wp2_with fail
 refine (jz3 E b s2 [97,115,115,105,103,110,115] _ ((HA.o.set (i:=3) hq (.string ⟨o.toArray⟩)).set (i:=5) hq (.int .i64 (1:Int))).1 (nd_of (by decide))).mono ?_
 rw [acc_isT H3.o]
 rintro e w3 ⟨rfl,m3,rfl⟩
 go_wp2_with fail
 refine (jz3 E b s2 [110,111,118,97,116,101,115] _ (((HA.o.set (i:=3) hq (.string ⟨o.toArray⟩)).set (i:=5) hq (.int .i64 (1:Int))).drewN m3).1 (nd_of (by decide))).mono ?_
 rw [acc_isT H4.o]
 rintro e w4 ⟨rfl,m4,rfl⟩
 go_wp2_with fail
 refine (jx8 E b s2 [109,111,118,101,115] _ (((HA.o.set (i:=3) hq (.string ⟨o.toArray⟩)).set (i:=5) hq (.int .i64 (1:Int))).drewN (m3+m4)).1 (nd_of (by decide))).mono ?_
 rw [H5.o]
 rintro e w5 ⟨rfl,hA⟩
 have GI:Hid (IB q {f with of_:=o,word:=1} sc sd sn si w5):=hA.2.blk (jx2 (IB.set_word (IB.set_of_ HI.o o) 1) (m3+m4)) (by omega)
 have GA:=hdd ((((HA.o.set (i:=3) hq (.string ⟨o.toArray⟩)).set (i:=5) hq (.int .i64 (1:Int))).drewN (m3+m4)).trans hA)
 clear hA
 try clear k_3 f_3 k_5 f_5
 clear HI
 clear HA
 revert GI GA;intro HI HA
 go_wp2_with fail
 refine (ratio_any E b s5 _ HA.o.1).mono ?_
 rw [H6.o]
 rintro e w6 ⟨rfl,hA⟩
 have GI:Hid (IB q {f with of_:=o,word:=1} sc sd sn si w6):=hA.2.blk HI.o (by omega)
 have GA:=hdd (HA.o.trans hA)
 clear hA
 clear HI
 clear HA
 revert GI GA;intro HI HA
 have k_16:w6.cell? ⟨q,16,none⟩=some (.int .i64 (f.num.num:Int)):=jq0 HI.o 16
 have f_16:w6.frozen? ⟨q,16,none⟩=false:=jq1 HI.o 16
 have k_17:w6.cell? ⟨q,17,none⟩=some (.int .i64 (f.num.den:Int)):=jq0 HI.o 17
 have f_17:w6.frozen? ⟨q,17,none⟩=false:=jq1 HI.o 17
 go_wp2_with fail
 refine (name_any E b s6 _ ((HA.o.set (i:=16) hq (.int .i64 (r.num:Int))).set (i:=17) hq (.int .i64 (r.den:Int))).1).mono ?_
 rw [H7.o]
 rintro e w7 ⟨rfl,hA⟩
 have GI:Hid (IB q {f with of_:=o,word:=1,num:=r} sc sd sn si w7):=hA.2.blk (IB.set_num HI.o r) (by omega)
 have GA:=hdd (((HA.o.set (i:=16) hq (.int .i64 (r.num:Int))).set (i:=17) hq (.int .i64 (r.den:Int))).trans hA)
 clear hA
 try clear k_16 f_16 k_17 f_17
 clear HI
 clear HA
 revert GI GA;intro HI HA
 have k_18:w7.cell? ⟨q,18,none⟩=some (.string ⟨f.unit.toArray⟩):=jq0 HI.o 18
 have f_18:w7.frozen? ⟨q,18,none⟩=false:=jq1 HI.o 18
 go_wp2_with fail
 refine (jx8 E b s7 [116,111] _ (HA.o.set (i:=18) hq (.string ⟨u.toArray⟩)).1 (nd_of (by decide))).mono ?_
 rw [H8.o]
 rintro e w8 ⟨rfl,hA⟩
 have GI:Hid (IB q {f with of_:=o,word:=1,num:=r,unit:=u} sc sd sn si w8):=hA.2.blk (IB.set_unit HI.o u) (by omega)
 have GA:=hdd ((HA.o.set (i:=18) hq (.string ⟨u.toArray⟩)).trans hA)
 clear hA
 try clear k_18 f_18
 clear HI
 clear HA
 revert GI GA;intro HI HA
 go_wp2_with fail
 refine (name_any E b s8 _ HA.o.1).mono ?_
 rw [H9.o]
 rintro e w9 ⟨rfl,hA⟩
 have GI:Hid (IB q {f with of_:=o,word:=1,num:=r,unit:=u} sc sd sn si w9):=hA.2.blk HI.o (by omega)
 have GA:=hdd (HA.o.trans hA)
 clear hA
 clear HI
 clear HA
 revert GI GA;intro HI HA
 have k_22:w9.cell? ⟨q,22,none⟩=some (.string ⟨f.to_.toArray⟩):=jq0 HI.o 22
 have f_22:w9.frozen? ⟨q,22,none⟩=false:=jq1 HI.o 22
 go_wp2_with fail
 refine (jx3 E b s9 [59] _ (HA.o.set (i:=22) hq (.string ⟨t.toArray⟩)).1 (nd_of (by decide))).mono ?_
 rw [H10.o]
 rintro e w10 ⟨rfl,hA⟩
 have GI:Hid (IB q {f with of_:=o,word:=1,num:=r,unit:=u,to_:=t} sc sd sn si w10):=hA.2.blk (IB.set_to_ HI.o t) (by omega)
 have GA:=hdd ((HA.o.set (i:=22) hq (.string ⟨t.toArray⟩)).trans hA)
 clear hA
 try clear k_22 f_22
 clear HI
 clear HA
 revert GI GA;intro HI HA
 go_wp2_with fail
 first|go_end0|refine bodyPost_ret (results_none rfl _ _ _) rfl ?_
 exact ⟨rfl,HI.o,HA.o⟩
theorem act_p10 (E:Env) (b:Nat) (s:St) (W:World) (h:PW E b s W) (q:Nat) (f:Flat) (sc sd sn si:Value) (hI:IB q f sc sd sn si W) (hq:b<q) (u1:Unit) (s1:St) (o:Bytes) (s2:St) (s5:St) (r:Ratio) (s6:St) (u:Bytes) (s7:St) (u9:Unit) (s9:St) (h1:expect [[98,121]] s=(u1,s1)) (h2:name s1=(o,s2)) (hn:(o== [110,97,116,117,114,101])=false) (h3:acc [97,115,115,105,103,110,115] s2=(false,s2)) (h4:acc [110,111,118,97,116,101,115] s2=(false,s2)) (h5:acc [109,111,118,101,115] s2=(true,s5)) (h6:Pr.ratio s5=(r,s6)) (h7:name s6=(u,s7)) (h8:acc [116,111] s7=(false,s7)) (h9:expect [[59]] s7=(u9,s9)):
  Calls Tryd.prog 50 #[.pointer (some ⟨b,0,none⟩),.pointer (some ⟨q,0,none⟩)] W fun e w'=>e= .returned (.tuple #[])∧IB q {f with of_:=o,word:=1,num:=r,unit:=u} sc sd sn si w'∧After2 E b q s9 W w':=by
 have HP:=hdd h;clear h
 have HI:=hdd hI;clear hI
 have H1:=hdd h1;clear h1
 have H2:=hdd h2;clear h2
 have H3:=hdd h3;clear h3
 have H4:=hdd h4;clear h4
 have H5:=hdd h5;clear h5
 have H6:=hdd h6;clear h6
 have H7:=hdd h7;clear h7
 have H8:=hdd h8;clear h8
 have H9:=hdd h9;clear h9
 go_enter Tryd.func50,Tryd.ntmps50
 go_wp2_with fail
 refine (jx3 E b s [98,121] _ (After2.start (q:=q) HP.o).1 (nd_of (by decide))).mono ?_
 rw [H1.o]
 rintro e w1 ⟨rfl,hA⟩
 have GI:Hid (IB q f sc sd sn si w1):=hA.2.blk HI.o (by omega)
 have GA:=hdd ((After2.start (q:=q) HP.o).trans hA)
 clear hA
 clear HI
 revert GI GA;intro HI HA
 go_wp2_with fail
 refine (name_any E b s1 _ HA.o.1).mono ?_
 rw [H2.o]
 rintro e w2 ⟨rfl,hA⟩
 have GI:Hid (IB q f sc sd sn si w2):=hA.2.blk HI.o (by omega)
 have GA:=hdd (HA.o.trans hA)
 clear hA
 clear HI
 clear HA
 revert GI GA;intro HI HA
 have k_3:w2.cell? ⟨q,3,none⟩=some (.string ⟨f.of_.toArray⟩):=jq0 HI.o 3
 have f_3:w2.frozen? ⟨q,3,none⟩=false:=jq1 HI.o 3
 have k_5:w2.cell? ⟨q,5,none⟩=some (.int .i64 (f.word:Int)):=jq0 HI.o 5
 have f_5:w2.frozen? ⟨q,5,none⟩=false:=jq1 HI.o 5
 go_wp2_with fail
 refine (jz3 E b s2 [97,115,115,105,103,110,115] _ ((HA.o.set (i:=3) hq (.string ⟨o.toArray⟩)).set (i:=5) hq (.int .i64 (1:Int))).1 (nd_of (by decide))).mono ?_
 rw [acc_isT H3.o]
 rintro e w3 ⟨rfl,m3,rfl⟩
 go_wp2_with fail
 refine (jz3 E b s2 [110,111,118,97,116,101,115] _ (((HA.o.set (i:=3) hq (.string ⟨o.toArray⟩)).set (i:=5) hq (.int .i64 (1:Int))).drewN m3).1 (nd_of (by decide))).mono ?_
 rw [acc_isT H4.o]
 rintro e w4 ⟨rfl,m4,rfl⟩
 go_wp2_with fail
 refine (jx8 E b s2 [109,111,118,101,115] _ (((HA.o.set (i:=3) hq (.string ⟨o.toArray⟩)).set (i:=5) hq (.int .i64 (1:Int))).drewN (m3+m4)).1 (nd_of (by decide))).mono ?_
 rw [H5.o]
 rintro e w5 ⟨rfl,hA⟩
 have GI:Hid (IB q {f with of_:=o,word:=1} sc sd sn si w5):=hA.2.blk (jx2 (IB.set_word (IB.set_of_ HI.o o) 1) (m3+m4)) (by omega)
 have GA:=hdd ((((HA.o.set (i:=3) hq (.string ⟨o.toArray⟩)).set (i:=5) hq (.int .i64 (1:Int))).drewN (m3+m4)).trans hA)
 clear hA
 try clear k_3 f_3 k_5 f_5
 clear HI
 clear HA
 revert GI GA;intro HI HA
 go_wp2_with fail
 refine (ratio_any E b s5 _ HA.o.1).mono ?_
 rw [H6.o]
 rintro e w6 ⟨rfl,hA⟩
 have GI:Hid (IB q {f with of_:=o,word:=1} sc sd sn si w6):=hA.2.blk HI.o (by omega)
 have GA:=hdd (HA.o.trans hA)
 clear hA
 clear HI
 clear HA
 revert GI GA;intro HI HA
 have k_16:w6.cell? ⟨q,16,none⟩=some (.int .i64 (f.num.num:Int)):=jq0 HI.o 16
 have f_16:w6.frozen? ⟨q,16,none⟩=false:=jq1 HI.o 16
 have k_17:w6.cell? ⟨q,17,none⟩=some (.int .i64 (f.num.den:Int)):=jq0 HI.o 17
 have f_17:w6.frozen? ⟨q,17,none⟩=false:=jq1 HI.o 17
 go_wp2_with fail
 refine (name_any E b s6 _ ((HA.o.set (i:=16) hq (.int .i64 (r.num:Int))).set (i:=17) hq (.int .i64 (r.den:Int))).1).mono ?_
 rw [H7.o]
 rintro e w7 ⟨rfl,hA⟩
 have GI:Hid (IB q {f with of_:=o,word:=1,num:=r} sc sd sn si w7):=hA.2.blk (IB.set_num HI.o r) (by omega)
 have GA:=hdd (((HA.o.set (i:=16) hq (.int .i64 (r.num:Int))).set (i:=17) hq (.int .i64 (r.den:Int))).trans hA)
 clear hA
 try clear k_16 f_16 k_17 f_17
 clear HI
 clear HA
 revert GI GA;intro HI HA
 have k_18:w7.cell? ⟨q,18,none⟩=some (.string ⟨f.unit.toArray⟩):=jq0 HI.o 18
 have f_18:w7.frozen? ⟨q,18,none⟩=false:=jq1 HI.o 18
 go_wp2_with fail
 refine (jx8 E b s7 [116,111] _ (HA.o.set (i:=18) hq (.string ⟨u.toArray⟩)).1 (nd_of (by decide))).mono ?_
 rw [H8.o]
 rintro e w8 ⟨rfl,hA⟩
 have GI:Hid (IB q {f with of_:=o,word:=1,num:=r,unit:=u} sc sd sn si w8):=hA.2.blk (IB.set_unit HI.o u) (by omega)
 have GA:=hdd ((HA.o.set (i:=18) hq (.string ⟨u.toArray⟩)).trans hA)
 clear hA
 try clear k_18 f_18
 clear HI
 clear HA
 revert GI GA;intro HI HA
 go_wp2_with fail
 refine (jx3 E b s7 [59] _ HA.o.1 (nd_of (by decide))).mono ?_
 rw [H9.o]
 rintro e w9 ⟨rfl,hA⟩
 have GI:Hid (IB q {f with of_:=o,word:=1,num:=r,unit:=u} sc sd sn si w9):=hA.2.blk HI.o (by omega)
 have GA:=hdd (HA.o.trans hA)
 clear hA
 clear HI
 clear HA
 revert GI GA;intro HI HA
 go_wp2_with fail
 first|go_end0|refine bodyPost_ret (results_none rfl _ _ _) rfl ?_
 exact ⟨rfl,HI.o,HA.o⟩
theorem act_p11 (E:Env) (b:Nat) (s:St) (W:World) (h:PW E b s W) (q:Nat) (f:Flat) (sc sd sn si:Value) (hI:IB q f sc sd sn si W) (hq:b<q) (u1:Unit) (s1:St) (o:Bytes) (s2:St) (s6:St) (t:Bytes) (s7:St) (u8:Unit) (s8:St) (h1:expect [[98,121]] s=(u1,s1)) (h2:name s1=(o,s2)) (hn:(o== [110,97,116,117,114,101])=false) (h3:acc [97,115,115,105,103,110,115] s2=(false,s2)) (h4:acc [110,111,118,97,116,101,115] s2=(false,s2)) (h5:acc [109,111,118,101,115] s2=(false,s2)) (h6:acc [116,111] s2=(true,s6)) (h7:name s6=(t,s7)) (h8:expect [[59]] s7=(u8,s8)):
  Calls Tryd.prog 50 #[.pointer (some ⟨b,0,none⟩),.pointer (some ⟨q,0,none⟩)] W fun e w'=>e= .returned (.tuple #[])∧IB q {f with of_:=o,word:=1,to_:=t} sc sd sn si w'∧After2 E b q s8 W w':=by
 have HP:=hdd h;clear h
 have HI:=hdd hI;clear hI
 have H1:=hdd h1;clear h1
 have H2:=hdd h2;clear h2
 have H3:=hdd h3;clear h3
 have H4:=hdd h4;clear h4
 have H5:=hdd h5;clear h5
 have H6:=hdd h6;clear h6
 have H7:=hdd h7;clear h7
 have H8:=hdd h8;clear h8
 go_enter Tryd.func50,Tryd.ntmps50
 go_wp2_with fail
 refine (jx3 E b s [98,121] _ (After2.start (q:=q) HP.o).1 (nd_of (by decide))).mono ?_
 rw [H1.o]
 rintro e w1 ⟨rfl,hA⟩
 have GI:Hid (IB q f sc sd sn si w1):=hA.2.blk HI.o (by omega)
 have GA:=hdd ((After2.start (q:=q) HP.o).trans hA)
 clear hA
 clear HI
 revert GI GA;intro HI HA
 go_wp2_with fail
 refine (name_any E b s1 _ HA.o.1).mono ?_
 rw [H2.o]
 rintro e w2 ⟨rfl,hA⟩
 have GI:Hid (IB q f sc sd sn si w2):=hA.2.blk HI.o (by omega)
 have GA:=hdd (HA.o.trans hA)
 clear hA
 clear HI
 clear HA
 revert GI GA;intro HI HA
 have k_3:w2.cell? ⟨q,3,none⟩=some (.string ⟨f.of_.toArray⟩):=jq0 HI.o 3
 have f_3:w2.frozen? ⟨q,3,none⟩=false:=jq1 HI.o 3
 have k_5:w2.cell? ⟨q,5,none⟩=some (.int .i64 (f.word:Int)):=jq0 HI.o 5
 have f_5:w2.frozen? ⟨q,5,none⟩=false:=jq1 HI.o 5
 go_wp2_with fail
 refine (jz3 E b s2 [97,115,115,105,103,110,115] _ ((HA.o.set (i:=3) hq (.string ⟨o.toArray⟩)).set (i:=5) hq (.int .i64 (1:Int))).1 (nd_of (by decide))).mono ?_
 rw [acc_isT H3.o]
 rintro e w3 ⟨rfl,m3,rfl⟩
 go_wp2_with fail
 refine (jz3 E b s2 [110,111,118,97,116,101,115] _ (((HA.o.set (i:=3) hq (.string ⟨o.toArray⟩)).set (i:=5) hq (.int .i64 (1:Int))).drewN m3).1 (nd_of (by decide))).mono ?_
 rw [acc_isT H4.o]
 rintro e w4 ⟨rfl,m4,rfl⟩
 go_wp2_with fail
 refine (jx8 E b s2 [109,111,118,101,115] _ (((HA.o.set (i:=3) hq (.string ⟨o.toArray⟩)).set (i:=5) hq (.int .i64 (1:Int))).drewN (m3+m4)).1 (nd_of (by decide))).mono ?_
 rw [H5.o]
 rintro e w5 ⟨rfl,hA⟩
 have GI:Hid (IB q {f with of_:=o,word:=1} sc sd sn si w5):=hA.2.blk (jx2 (IB.set_word (IB.set_of_ HI.o o) 1) (m3+m4)) (by omega)
 have GA:=hdd ((((HA.o.set (i:=3) hq (.string ⟨o.toArray⟩)).set (i:=5) hq (.int .i64 (1:Int))).drewN (m3+m4)).trans hA)
 clear hA
 try clear k_3 f_3 k_5 f_5
 clear HI
 clear HA
 revert GI GA;intro HI HA
 go_wp2_with fail
 refine (jx8 E b s2 [116,111] _ HA.o.1 (nd_of (by decide))).mono ?_
 rw [H6.o]
 rintro e w6 ⟨rfl,hA⟩
 have GI:Hid (IB q {f with of_:=o,word:=1} sc sd sn si w6):=hA.2.blk HI.o (by omega)
 have GA:=hdd (HA.o.trans hA)
 clear hA
 clear HI
 clear HA
 revert GI GA;intro HI HA
 go_wp2_with fail
 refine (name_any E b s6 _ HA.o.1).mono ?_
 rw [H7.o]
 rintro e w7 ⟨rfl,hA⟩
 have GI:Hid (IB q {f with of_:=o,word:=1} sc sd sn si w7):=hA.2.blk HI.o (by omega)
 have GA:=hdd (HA.o.trans hA)
 clear hA
 clear HI
 clear HA
 revert GI GA;intro HI HA
 have k_22:w7.cell? ⟨q,22,none⟩=some (.string ⟨f.to_.toArray⟩):=jq0 HI.o 22
 have f_22:w7.frozen? ⟨q,22,none⟩=false:=jq1 HI.o 22
 go_wp2_with fail
 refine (jx3 E b s7 [59] _ (HA.o.set (i:=22) hq (.string ⟨t.toArray⟩)).1 (nd_of (by decide))).mono ?_
 rw [H8.o]
 rintro e w8 ⟨rfl,hA⟩
 have GI:Hid (IB q {f with of_:=o,word:=1,to_:=t} sc sd sn si w8):=hA.2.blk (IB.set_to_ HI.o t) (by omega)
 have GA:=hdd ((HA.o.set (i:=22) hq (.string ⟨t.toArray⟩)).trans hA)
 clear hA
 try clear k_22 f_22
 clear HI
 clear HA
 revert GI GA;intro HI HA
 go_wp2_with fail
 first|go_end0|refine bodyPost_ret (results_none rfl _ _ _) rfl ?_
 exact ⟨rfl,HI.o,HA.o⟩
theorem act_p12 (E:Env) (b:Nat) (s:St) (W:World) (h:PW E b s W) (q:Nat) (f:Flat) (sc sd sn si:Value) (hI:IB q f sc sd sn si W) (hq:b<q) (u1:Unit) (s1:St) (o:Bytes) (s2:St) (u7:Unit) (s7:St) (h1:expect [[98,121]] s=(u1,s1)) (h2:name s1=(o,s2)) (hn:(o== [110,97,116,117,114,101])=false) (h3:acc [97,115,115,105,103,110,115] s2=(false,s2)) (h4:acc [110,111,118,97,116,101,115] s2=(false,s2)) (h5:acc [109,111,118,101,115] s2=(false,s2)) (h6:acc [116,111] s2=(false,s2)) (h7:expect [[59]] s2=(u7,s7)):
  Calls Tryd.prog 50 #[.pointer (some ⟨b,0,none⟩),.pointer (some ⟨q,0,none⟩)] W fun e w'=>e= .returned (.tuple #[])∧IB q {f with of_:=o,word:=1} sc sd sn si w'∧After2 E b q s7 W w':=by
 have HP:=hdd h;clear h
 have HI:=hdd hI;clear hI
 have H1:=hdd h1;clear h1
 have H2:=hdd h2;clear h2
 have H3:=hdd h3;clear h3
 have H4:=hdd h4;clear h4
 have H5:=hdd h5;clear h5
 have H6:=hdd h6;clear h6
 have H7:=hdd h7;clear h7
 go_enter Tryd.func50,Tryd.ntmps50
 go_wp2_with fail
 refine (jx3 E b s [98,121] _ (After2.start (q:=q) HP.o).1 (nd_of (by decide))).mono ?_
 rw [H1.o]
 rintro e w1 ⟨rfl,hA⟩
 have GI:Hid (IB q f sc sd sn si w1):=hA.2.blk HI.o (by omega)
 have GA:=hdd ((After2.start (q:=q) HP.o).trans hA)
 clear hA
 clear HI
 revert GI GA;intro HI HA
 go_wp2_with fail
 refine (name_any E b s1 _ HA.o.1).mono ?_
 rw [H2.o]
 rintro e w2 ⟨rfl,hA⟩
 have GI:Hid (IB q f sc sd sn si w2):=hA.2.blk HI.o (by omega)
 have GA:=hdd (HA.o.trans hA)
 clear hA
 clear HI
 clear HA
 revert GI GA;intro HI HA
 have k_3:w2.cell? ⟨q,3,none⟩=some (.string ⟨f.of_.toArray⟩):=jq0 HI.o 3
 have f_3:w2.frozen? ⟨q,3,none⟩=false:=jq1 HI.o 3
 have k_5:w2.cell? ⟨q,5,none⟩=some (.int .i64 (f.word:Int)):=jq0 HI.o 5
 have f_5:w2.frozen? ⟨q,5,none⟩=false:=jq1 HI.o 5
 go_wp2_with fail
 refine (jz3 E b s2 [97,115,115,105,103,110,115] _ ((HA.o.set (i:=3) hq (.string ⟨o.toArray⟩)).set (i:=5) hq (.int .i64 (1:Int))).1 (nd_of (by decide))).mono ?_
 rw [acc_isT H3.o]
 rintro e w3 ⟨rfl,m3,rfl⟩
 go_wp2_with fail
 refine (jz3 E b s2 [110,111,118,97,116,101,115] _ (((HA.o.set (i:=3) hq (.string ⟨o.toArray⟩)).set (i:=5) hq (.int .i64 (1:Int))).drewN m3).1 (nd_of (by decide))).mono ?_
 rw [acc_isT H4.o]
 rintro e w4 ⟨rfl,m4,rfl⟩
 go_wp2_with fail
 refine (jx8 E b s2 [109,111,118,101,115] _ (((HA.o.set (i:=3) hq (.string ⟨o.toArray⟩)).set (i:=5) hq (.int .i64 (1:Int))).drewN (m3+m4)).1 (nd_of (by decide))).mono ?_
 rw [H5.o]
 rintro e w5 ⟨rfl,hA⟩
 have GI:Hid (IB q {f with of_:=o,word:=1} sc sd sn si w5):=hA.2.blk (jx2 (IB.set_word (IB.set_of_ HI.o o) 1) (m3+m4)) (by omega)
 have GA:=hdd ((((HA.o.set (i:=3) hq (.string ⟨o.toArray⟩)).set (i:=5) hq (.int .i64 (1:Int))).drewN (m3+m4)).trans hA)
 clear hA
 try clear k_3 f_3 k_5 f_5
 clear HI
 clear HA
 revert GI GA;intro HI HA
 go_wp2_with fail
 refine (jx8 E b s2 [116,111] _ HA.o.1 (nd_of (by decide))).mono ?_
 rw [H6.o]
 rintro e w6 ⟨rfl,hA⟩
 have GI:Hid (IB q {f with of_:=o,word:=1} sc sd sn si w6):=hA.2.blk HI.o (by omega)
 have GA:=hdd (HA.o.trans hA)
 clear hA
 clear HI
 clear HA
 revert GI GA;intro HI HA
 go_wp2_with fail
 refine (jx3 E b s2 [59] _ HA.o.1 (nd_of (by decide))).mono ?_
 rw [H7.o]
 rintro e w7 ⟨rfl,hA⟩
 have GI:Hid (IB q {f with of_:=o,word:=1} sc sd sn si w7):=hA.2.blk HI.o (by omega)
 have GA:=hdd (HA.o.trans hA)
 clear hA
 clear HI
 clear HA
 revert GI GA;intro HI HA
 go_wp2_with fail
 first|go_end0|refine bodyPost_ret (results_none rfl _ _ _) rfl ?_
 exact ⟨rfl,HI.o,HA.o⟩
theorem act_any (E:Env) (b:Nat) (s:St) (W:World) (h:PW E b s W) (q:Nat) (n:Bytes) (p:Nat) (hI:IB q {flat0 with kind:=8,name:=n,pos:=p} nil nil nil nil W) (hq:b<q):
  Calls Tryd.prog 50 #[.pointer (some ⟨b,0,none⟩),.pointer (some ⟨q,0,none⟩)] W fun e w'=>e= .returned (.tuple #[])∧IB q {(actR n s).1 with pos:=p} nil nil nil nil w'∧After2 E b q (actR n s).2 W w':=by
 obtain ⟨u1,s1,h1⟩: ∃x s',expect [[98,121]] s=(x,s'):=⟨_,_,rfl⟩
 obtain ⟨o,s2,h2⟩: ∃x s',name s1=(x,s'):=⟨_,_,rfl⟩
 cases hq9:(o== [110,97,116,117,114,101]) with
 |true=>
  have hn:o= [110,97,116,117,114,101]:=by simpa using hq9
  rcases jv9 [97,115,115,105,103,110,115] s2 with ⟨s3,h3⟩|h3
  ·obtain ⟨g,s4,h4⟩: ∃x s',name s3=(x,s'):=⟨_,_,rfl⟩
   obtain ⟨u5,s5,h5⟩: ∃x s',expect [[116,111]] s4=(x,s'):=⟨_,_,rfl⟩
   obtain ⟨t,s6,h6⟩: ∃x s',name s5=(x,s'):=⟨_,_,rfl⟩
   obtain ⟨u7,s7,h7⟩: ∃x s',expect [[59]] s6=(x,s'):=⟨_,_,rfl⟩
   have hp:actR n s=({flat0 with kind:=8,name:=n,of_:= [],word:=2,give:=g,to_:=t},s7):=(jx1 h1).trans ((jq3 h2).trans ((jz1 h3).trans ((jq3 h4).trans ((jx1 h5).trans ((jq3 h6).trans ((jx1 h7).trans (by rw [nat_yes hn];rfl)))))))
   rw [hp]
   exact act_p1 E b s W h q _ nil nil nil nil hI hq u1 s1 o s2 s3 g s4 u5 s5 t s6 u7 s7 h1 h2 hn h3 h4 h5 h6 h7
  ·rcases jv9 [110,111,118,97,116,101,115] s2 with ⟨s4,h4⟩|h4
   ·obtain ⟨g,s5,h5⟩: ∃x s',name s4=(x,s'):=⟨_,_,rfl⟩
    obtain ⟨u6,s6,h6⟩: ∃x s',expect [[116,111]] s5=(x,s'):=⟨_,_,rfl⟩
    obtain ⟨t,s7,h7⟩: ∃x s',name s6=(x,s'):=⟨_,_,rfl⟩
    obtain ⟨u8,s8,h8⟩: ∃x s',expect [[59]] s7=(x,s'):=⟨_,_,rfl⟩
    have hp:actR n s=({flat0 with kind:=8,name:=n,of_:= [],word:=3,give:=g,to_:=t},s8):=(jx1 h1).trans ((jq3 h2).trans ((jx9 h3).trans ((jz1 h4).trans ((jq3 h5).trans ((jx1 h6).trans ((jq3 h7).trans ((jx1 h8).trans (by rw [nat_yes hn];rfl))))))))
    rw [hp]
    exact act_p2 E b s W h q _ nil nil nil nil hI hq u1 s1 o s2 s4 g s5 u6 s6 t s7 u8 s8 h1 h2 hn h3 h4 h5 h6 h7 h8
   ·rcases jv9 [109,111,118,101,115] s2 with ⟨s5,h5⟩|h5
    ·obtain ⟨r,s6,h6⟩: ∃x s',Pr.ratio s5=(x,s'):=⟨_,_,rfl⟩
     obtain ⟨u,s7,h7⟩: ∃x s',name s6=(x,s'):=⟨_,_,rfl⟩
     rcases jv9 [116,111] s7 with ⟨s8,h8⟩|h8
     ·obtain ⟨t,s9,h9⟩: ∃x s',name s8=(x,s'):=⟨_,_,rfl⟩
      obtain ⟨u10,s10,h10⟩: ∃x s',expect [[59]] s9=(x,s'):=⟨_,_,rfl⟩
      have hp:actR n s=({flat0 with kind:=8,name:=n,of_:= [],word:=1,num:=r,unit:=u,to_:=t},s10):=(jx1 h1).trans ((jq3 h2).trans ((jx9 h3).trans ((jx9 h4).trans ((jz1 h5).trans ((jq3 h6).trans ((jq3 h7).trans ((jz1 h8).trans ((jq3 h9).trans ((jx1 h10).trans (by rw [nat_yes hn];rfl))))))))))
      rw [hp]
      exact act_p3 E b s W h q _ nil nil nil nil hI hq u1 s1 o s2 s5 r s6 u s7 s8 t s9 u10 s10 h1 h2 hn h3 h4 h5 h6 h7 h8 h9 h10
     ·obtain ⟨u9,s9,h9⟩: ∃x s',expect [[59]] s7=(x,s'):=⟨_,_,rfl⟩
      have hp:actR n s=({flat0 with kind:=8,name:=n,of_:= [],word:=1,num:=r,unit:=u},s9):=(jx1 h1).trans ((jq3 h2).trans ((jx9 h3).trans ((jx9 h4).trans ((jz1 h5).trans ((jq3 h6).trans ((jq3 h7).trans ((jx9 h8).trans ((jx1 h9).trans (by rw [nat_yes hn];rfl)))))))))
      rw [hp]
      exact act_p4 E b s W h q _ nil nil nil nil hI hq u1 s1 o s2 s5 r s6 u s7 u9 s9 h1 h2 hn h3 h4 h5 h6 h7 h8 h9
    ·rcases jv9 [116,111] s2 with ⟨s6,h6⟩|h6
     ·obtain ⟨t,s7,h7⟩: ∃x s',name s6=(x,s'):=⟨_,_,rfl⟩
      obtain ⟨u8,s8,h8⟩: ∃x s',expect [[59]] s7=(x,s'):=⟨_,_,rfl⟩
      have hp:actR n s=({flat0 with kind:=8,name:=n,of_:= [],word:=1,to_:=t},s8):=(jx1 h1).trans ((jq3 h2).trans ((jx9 h3).trans ((jx9 h4).trans ((jx9 h5).trans ((jz1 h6).trans ((jq3 h7).trans ((jx1 h8).trans (by rw [nat_yes hn];rfl))))))))
      rw [hp]
      exact act_p5 E b s W h q _ nil nil nil nil hI hq u1 s1 o s2 s6 t s7 u8 s8 h1 h2 hn h3 h4 h5 h6 h7 h8
     ·obtain ⟨u7,s7,h7⟩: ∃x s',expect [[59]] s2=(x,s'):=⟨_,_,rfl⟩
      have hp:actR n s=({flat0 with kind:=8,name:=n,of_:= [],word:=1},s7):=(jx1 h1).trans ((jq3 h2).trans ((jx9 h3).trans ((jx9 h4).trans ((jx9 h5).trans ((jx9 h6).trans ((jx1 h7).trans (by rw [nat_yes hn];rfl)))))))
      rw [hp]
      exact act_p6 E b s W h q _ nil nil nil nil hI hq u1 s1 o s2 u7 s7 h1 h2 hn h3 h4 h5 h6 h7
 |false=>
  have hn:=hq9
  rcases jv9 [97,115,115,105,103,110,115] s2 with ⟨s3,h3⟩|h3
  ·obtain ⟨g,s4,h4⟩: ∃x s',name s3=(x,s'):=⟨_,_,rfl⟩
   obtain ⟨u5,s5,h5⟩: ∃x s',expect [[116,111]] s4=(x,s'):=⟨_,_,rfl⟩
   obtain ⟨t,s6,h6⟩: ∃x s',name s5=(x,s'):=⟨_,_,rfl⟩
   obtain ⟨u7,s7,h7⟩: ∃x s',expect [[59]] s6=(x,s'):=⟨_,_,rfl⟩
   have hp:actR n s=({flat0 with kind:=8,name:=n,of_:=o,word:=2,give:=g,to_:=t},s7):=(jx1 h1).trans ((jq3 h2).trans ((jz1 h3).trans ((jq3 h4).trans ((jx1 h5).trans ((jq3 h6).trans ((jx1 h7).trans (by rw [nat_no hn];rfl)))))))
   rw [hp]
   exact act_p7 E b s W h q _ nil nil nil nil hI hq u1 s1 o s2 s3 g s4 u5 s5 t s6 u7 s7 h1 h2 hn h3 h4 h5 h6 h7
  ·rcases jv9 [110,111,118,97,116,101,115] s2 with ⟨s4,h4⟩|h4
   ·obtain ⟨g,s5,h5⟩: ∃x s',name s4=(x,s'):=⟨_,_,rfl⟩
    obtain ⟨u6,s6,h6⟩: ∃x s',expect [[116,111]] s5=(x,s'):=⟨_,_,rfl⟩
    obtain ⟨t,s7,h7⟩: ∃x s',name s6=(x,s'):=⟨_,_,rfl⟩
    obtain ⟨u8,s8,h8⟩: ∃x s',expect [[59]] s7=(x,s'):=⟨_,_,rfl⟩
    have hp:actR n s=({flat0 with kind:=8,name:=n,of_:=o,word:=3,give:=g,to_:=t},s8):=(jx1 h1).trans ((jq3 h2).trans ((jx9 h3).trans ((jz1 h4).trans ((jq3 h5).trans ((jx1 h6).trans ((jq3 h7).trans ((jx1 h8).trans (by rw [nat_no hn];rfl))))))))
    rw [hp]
    exact act_p8 E b s W h q _ nil nil nil nil hI hq u1 s1 o s2 s4 g s5 u6 s6 t s7 u8 s8 h1 h2 hn h3 h4 h5 h6 h7 h8
   ·rcases jv9 [109,111,118,101,115] s2 with ⟨s5,h5⟩|h5
    ·obtain ⟨r,s6,h6⟩: ∃x s',Pr.ratio s5=(x,s'):=⟨_,_,rfl⟩
     obtain ⟨u,s7,h7⟩: ∃x s',name s6=(x,s'):=⟨_,_,rfl⟩
     rcases jv9 [116,111] s7 with ⟨s8,h8⟩|h8
     ·obtain ⟨t,s9,h9⟩: ∃x s',name s8=(x,s'):=⟨_,_,rfl⟩
      obtain ⟨u10,s10,h10⟩: ∃x s',expect [[59]] s9=(x,s'):=⟨_,_,rfl⟩
      have hp:actR n s=({flat0 with kind:=8,name:=n,of_:=o,word:=1,num:=r,unit:=u,to_:=t},s10):=(jx1 h1).trans ((jq3 h2).trans ((jx9 h3).trans ((jx9 h4).trans ((jz1 h5).trans ((jq3 h6).trans ((jq3 h7).trans ((jz1 h8).trans ((jq3 h9).trans ((jx1 h10).trans (by rw [nat_no hn];rfl))))))))))
      rw [hp]
      exact act_p9 E b s W h q _ nil nil nil nil hI hq u1 s1 o s2 s5 r s6 u s7 s8 t s9 u10 s10 h1 h2 hn h3 h4 h5 h6 h7 h8 h9 h10
     ·obtain ⟨u9,s9,h9⟩: ∃x s',expect [[59]] s7=(x,s'):=⟨_,_,rfl⟩
      have hp:actR n s=({flat0 with kind:=8,name:=n,of_:=o,word:=1,num:=r,unit:=u},s9):=(jx1 h1).trans ((jq3 h2).trans ((jx9 h3).trans ((jx9 h4).trans ((jz1 h5).trans ((jq3 h6).trans ((jq3 h7).trans ((jx9 h8).trans ((jx1 h9).trans (by rw [nat_no hn];rfl)))))))))
      rw [hp]
      exact act_p10 E b s W h q _ nil nil nil nil hI hq u1 s1 o s2 s5 r s6 u s7 u9 s9 h1 h2 hn h3 h4 h5 h6 h7 h8 h9
    ·rcases jv9 [116,111] s2 with ⟨s6,h6⟩|h6
     ·obtain ⟨t,s7,h7⟩: ∃x s',name s6=(x,s'):=⟨_,_,rfl⟩
      obtain ⟨u8,s8,h8⟩: ∃x s',expect [[59]] s7=(x,s'):=⟨_,_,rfl⟩
      have hp:actR n s=({flat0 with kind:=8,name:=n,of_:=o,word:=1,to_:=t},s8):=(jx1 h1).trans ((jq3 h2).trans ((jx9 h3).trans ((jx9 h4).trans ((jx9 h5).trans ((jz1 h6).trans ((jq3 h7).trans ((jx1 h8).trans (by rw [nat_no hn];rfl))))))))
      rw [hp]
      exact act_p11 E b s W h q _ nil nil nil nil hI hq u1 s1 o s2 s6 t s7 u8 s8 h1 h2 hn h3 h4 h5 h6 h7 h8
     ·obtain ⟨u7,s7,h7⟩: ∃x s',expect [[59]] s2=(x,s'):=⟨_,_,rfl⟩
      have hp:actR n s=({flat0 with kind:=8,name:=n,of_:=o,word:=1},s7):=(jx1 h1).trans ((jq3 h2).trans ((jx9 h3).trans ((jx9 h4).trans ((jx9 h5).trans ((jx9 h6).trans ((jx1 h7).trans (by rw [nat_no hn];rfl)))))))
      rw [hp]
      exact act_p12 E b s W h q _ nil nil nil nil hI hq u1 s1 o s2 u7 s7 h1 h2 hn h3 h4 h5 h6 h7
end Go.Proofs.YtfaflipphkoiiaaDoor.Rp
