/-
  What some methods of the parser return (printed by parwalk.py): act.
-/
import Derived.Test.YtfaflipphkoiiaaDoorParGenA
set_option maxHeartbeats 64000000
set_option maxRecDepth 100000
set_option linter.unusedVariables false
namespace Go.Proofs.YtfaflipphkoiiaaDoor.Pr
open Go.RowKit Mem
open Lx (Tok)
theorem nat_yes {o:Bytes} (h:o= [110,97,116,117,114,101]):nature o= []:=if_pos h
theorem nat_no {o:Bytes} (h:(o== [110,97,116,117,114,101])=false):nature o=o:=if_neg (by simpa using h)
theorem jv6 (n:Bytes) (w:World):(Instr.build 57 #[(0,.int .i64 8),(1,.string ⟨n.toArray⟩),(5,.int .i64 1)]).run Tryd.prog w= .ok (.agg (icells {flat0 with kind:=8,name:=n,word:=1} nil nil nil nil).toArray) w:=by kernel_rfl
theorem act_p1 (E:Env) (b:Nat) (s:St) (W:World) (h:PW E b s W) (n:Bytes) (s1:St) (u2:Unit) (s2:St) (o:Bytes) (s3:St) (s4:St) (g:Bytes) (s5:St) (u6:Unit) (s6:St) (t:Bytes) (s7:St) (u8:Unit) (s8:St) (h1:name s=(n,s1)) (h2:expect [[98,121]] s1=(u2,s2)) (h3:name s2=(o,s3)) (h4:acc [97,115,115,105,103,110,115] s3=(true,s4)) (h5:name s4=(g,s5)) (h6:expect [[116,111]] s5=(u6,s6)) (h7:name s6=(t,s7)) (h8:expect [[59]] s7=(u8,s8)) (hn:o= [110,97,116,117,114,101]):
  Calls Tryd.prog 68 #[.pointer (some ⟨b,0,none⟩)] W fun e w'=>(∃sc sd sn,e= .returned (.agg (icells {flat0 with kind:=8,name:=n,word:=2,of_:= [],give:=g,to_:=t} sc sd sn nil).toArray)∧FlatOK W.heap.size {flat0 with kind:=8,name:=n,word:=2,of_:= [],give:=g,to_:=t} sc sd sn w')∧After E b s8 W w':=by
 have hbl:=h.2.2.1
 have HP:=hdd h;clear h
 have H1:=hdd h1;clear h1
 have H2:=hdd h2;clear h2
 have H3:=hdd h3;clear h3
 have H4:=hdd h4;clear h4
 have H5:=hdd h5;clear h5
 have H6:=hdd h6;clear h6
 have H7:=hdd h7;clear h7
 have H8:=hdd h8;clear h8
 subst hn
 go_enter Tryd.func68,Tryd.ntmps68
 go_wp2_with fail
 refine (name_any E b s _ ((After.start HP.o).alloc _).1).mono ?_
 rw [H1.o]
 rintro e w1 ⟨rfl,hA⟩
 have GR:Hid (I0 W w1):=hA.2.blk (jq5 (by simp)) (by omega)
 have GA:=hdd (((After.start HP.o).alloc _).trans hA)
 have hs1:W.heap.size<w1.heap.size:=by have:=hA.2.size;simp only [World.size_alloc] at this;omega
 clear hA
 revert GR GA;intro HR HA
 go_wp2_with (first|(refine wpList_build rfl 57 _ rfl #[(0,.int .i64 8),(1,.string ⟨n.toArray⟩),(5,.int .i64 1)] ?_ _ (jv6 n _) ?_;(simp [Act.eval]))|(refine jq4 rfl 57 _ _ rfl rfl (icells {flat0 with kind:=8,name:=n,word:=1} nil nil nil nil).toArray rfl (jq6 _ _ _ _ _) (ic1 ..) (by rfl) ?_))
 refine (expect1 E b s1 [98,121] _ _ (by simp) (HA.o.alloc _).1).mono ?_
 rw [H2.o]
 rintro e w2 ⟨rfl,hA⟩
 have GR:Hid (I0 W w2):=hA.2.blk (jq9 HR.o _) (by omega)
 have GI:Hid (I4 w1.heap.size {flat0 with kind:=8,name:=n,word:=1} w2):=hA.2.blk (jq5 (by simp)) (by omega)
 have GA:=hdd ((HA.o.alloc _).trans hA)
 have hs2:W.heap.size<w2.heap.size:=by have:=hA.2.size;simp only [World.size_alloc] at this;omega
 clear hA
 clear HA HR
 revert GR GI GA;intro HR HI HA
 go_wp2_with fail
 refine (name_any E b s2 _ HA.o.1).mono ?_
 rw [H3.o]
 rintro e w3 ⟨rfl,hA⟩
 have GR:Hid (I0 W w3):=hA.2.blk HR.o (by omega)
 have GI:Hid (I4 w1.heap.size {flat0 with kind:=8,name:=n,word:=1} w3):=hA.2.blk HI.o (by omega)
 have GA:=hdd (HA.o.trans hA)
 have hs3:W.heap.size<w3.heap.size:=by have:=hA.2.size;omega
 clear hA
 clear HA HR HI
 revert GR GI GA;intro HR HI HA
 have kI_3:w3.cell? ⟨w1.heap.size,3,none⟩=some (.string ⟨#[]⟩):=jq0 HI.o 3
 have fI_3:w3.frozen? ⟨w1.heap.size,3,none⟩=false:=jq1 HI.o 3
 go_wp2_with fail
 refine (jx0 E b s3 [97,115,115,105,103,110,115] _ ((HA.o.set (i:=3) (by omega) (by omega) (.string ⟨[110,97,116,117,114,101].toArray⟩)).set (i:=3) (by omega) (by omega) (.string ⟨#[]⟩)).1).mono ?_
 rw [H4.o]
 rintro e w4 ⟨rfl,hA⟩
 have GR:Hid (I0 W w4):=hA.2.blk (jq2 (jq2 HR.o (by omega) (.string ⟨[110,97,116,117,114,101].toArray⟩)) (by omega) (.string ⟨#[]⟩)) (by omega)
 have GI:Hid (I4 w1.heap.size {flat0 with kind:=8,name:=n,word:=1,of_:= []} w4):=hA.2.blk (IB.set_of_ (IB.set_of_ HI.o [110,97,116,117,114,101]) []) (by omega)
 have GA:=hdd (((HA.o.set (i:=3) (by omega) (by omega) (.string ⟨[110,97,116,117,114,101].toArray⟩)).set (i:=3) (by omega) (by omega) (.string ⟨#[]⟩)).trans hA)
 have hs4:W.heap.size<w4.heap.size:=by have:=hA.2.size;simp only [World.size_setCell] at this;omega
 clear hA
 try clear kI_3 fI_3
 clear HA HR HI
 revert GR GI GA;intro HR HI HA
 have kI_5:w4.cell? ⟨w1.heap.size,5,none⟩=some (.int .i64 1):=jq0 HI.o 5
 have fI_5:w4.frozen? ⟨w1.heap.size,5,none⟩=false:=jq1 HI.o 5
 go_wp2_with fail
 refine (name_any E b s4 _ (HA.o.set (i:=5) (by omega) (by omega) (.int .i64 2)).1).mono ?_
 rw [H5.o]
 rintro e w5 ⟨rfl,hA⟩
 have GR:Hid (I0 W w5):=hA.2.blk (jq2 HR.o (by omega) (.int .i64 2)) (by omega)
 have GI:Hid (I4 w1.heap.size {flat0 with kind:=8,name:=n,word:=2,of_:= []} w5):=hA.2.blk (IB.set_word HI.o 2) (by omega)
 have GA:=hdd ((HA.o.set (i:=5) (by omega) (by omega) (.int .i64 2)).trans hA)
 have hs5:W.heap.size<w5.heap.size:=by have:=hA.2.size;simp only [World.size_setCell] at this;omega
 clear hA
 try clear kI_5 fI_5
 clear HA HR HI
 revert GR GI GA;intro HR HI HA
 have kI_21:w5.cell? ⟨w1.heap.size,21,none⟩=some (.string ⟨#[]⟩):=jq0 HI.o 21
 have fI_21:w5.frozen? ⟨w1.heap.size,21,none⟩=false:=jq1 HI.o 21
 go_wp2_with fail
 refine (expect1 E b s5 [116,111] _ _ (by simp) (HA.o.set (i:=21) (by omega) (by omega) (.string ⟨g.toArray⟩)).1).mono ?_
 rw [H6.o]
 rintro e w6 ⟨rfl,hA⟩
 have GR:Hid (I0 W w6):=hA.2.blk (jq2 HR.o (by omega) (.string ⟨g.toArray⟩)) (by omega)
 have GI:Hid (I4 w1.heap.size {flat0 with kind:=8,name:=n,word:=2,of_:= [],give:=g} w6):=hA.2.blk (IB.set_give HI.o g) (by omega)
 have GA:=hdd ((HA.o.set (i:=21) (by omega) (by omega) (.string ⟨g.toArray⟩)).trans hA)
 have hs6:W.heap.size<w6.heap.size:=by have:=hA.2.size;simp only [World.size_setCell] at this;omega
 clear hA
 try clear kI_21 fI_21
 clear HA HR HI
 revert GR GI GA;intro HR HI HA
 go_wp2_with fail
 refine (name_any E b s6 _ HA.o.1).mono ?_
 rw [H7.o]
 rintro e w7 ⟨rfl,hA⟩
 have GR:Hid (I0 W w7):=hA.2.blk HR.o (by omega)
 have GI:Hid (I4 w1.heap.size {flat0 with kind:=8,name:=n,word:=2,of_:= [],give:=g} w7):=hA.2.blk HI.o (by omega)
 have GA:=hdd (HA.o.trans hA)
 have hs7:W.heap.size<w7.heap.size:=by have:=hA.2.size;omega
 clear hA
 clear HA HR HI
 revert GR GI GA;intro HR HI HA
 have kI_22:w7.cell? ⟨w1.heap.size,22,none⟩=some (.string ⟨#[]⟩):=jq0 HI.o 22
 have fI_22:w7.frozen? ⟨w1.heap.size,22,none⟩=false:=jq1 HI.o 22
 go_wp2_with fail
 refine (expect1 E b s7 [59] _ _ (by simp) (HA.o.set (i:=22) (by omega) (by omega) (.string ⟨t.toArray⟩)).1).mono ?_
 rw [H8.o]
 rintro e w8 ⟨rfl,hA⟩
 have GR:Hid (I0 W w8):=hA.2.blk (jq2 HR.o (by omega) (.string ⟨t.toArray⟩)) (by omega)
 have GI:Hid (I4 w1.heap.size {flat0 with kind:=8,name:=n,word:=2,of_:= [],give:=g,to_:=t} w8):=hA.2.blk (IB.set_to_ HI.o t) (by omega)
 have GA:=hdd ((HA.o.set (i:=22) (by omega) (by omega) (.string ⟨t.toArray⟩)).trans hA)
 have hs8:W.heap.size<w8.heap.size:=by have:=hA.2.size;simp only [World.size_setCell] at this;omega
 clear hA
 try clear kI_22 fI_22
 clear HA HR HI
 revert GR GI GA;intro HR HI HA
 obtain ⟨w99,hw99,hA99,hl99,ho99⟩:=item_end (g:=flat0) (a1:=nil) (a2:=nil) (a3:=nil) (a4:=nil) HR.o HA.o hbl {flat0 with kind:=8,name:=n,word:=2,of_:= [],give:=g,to_:=t} nil nil nil nil
 have HW99:=hdd hw99;clear hw99
 have HA99:=hdd hA99;clear hA99
 have HL99:=hdd hl99;clear hl99 ho99
 have HI9:Hid (I4 w1.heap.size {flat0 with kind:=8,name:=n,word:=2,of_:= [],give:=g,to_:=t} _):=HI.o
 have HR9:Hid (I0 W _):=HR.o
 go_wp2_with (first|(refine wpList_load_mid rfl 57 _ rfl w1.heap.size 0 rfl (icells {flat0 with kind:=8,name:=n,word:=2,of_:= [],give:=g,to_:=t} nil nil nil nil) _ HI9.o.range Tryd.underlying57 rfl (jx6 _ _ _ _ _) ?_)|(refine wpList_store_mid rfl 57 _ _ rfl W.heap.size 0 (icells {flat0 with kind:=8,name:=n,word:=2,of_:= [],give:=g,to_:=t} nil nil nil nil).toArray rfl rfl (HR9.o.there' _ _ _ _ _) (jq6 _ _ _ _ _) (ic1 ..) ?_;rw [HW99.o]))
 exact bodyPost_ret (v:= .agg (icells {flat0 with kind:=8,name:=n,word:=2,of_:= [],give:=g,to_:=t} nil nil nil nil).toArray) (jq8 Tryd.results68 rfl HL99.o) rfl ⟨⟨nil,nil,nil,rfl,FlatOK.nil _ _ _ rfl rfl rfl⟩,HA99.o⟩
theorem act_p2 (E:Env) (b:Nat) (s:St) (W:World) (h:PW E b s W) (n:Bytes) (s1:St) (u2:Unit) (s2:St) (o:Bytes) (s3:St) (s4:St) (s5:St) (g:Bytes) (s6:St) (u7:Unit) (s7:St) (t:Bytes) (s8:St) (u9:Unit) (s9:St) (h1:name s=(n,s1)) (h2:expect [[98,121]] s1=(u2,s2)) (h3:name s2=(o,s3)) (h4:acc [97,115,115,105,103,110,115] s3=(false,s4)) (h5:acc [110,111,118,97,116,101,115] s4=(true,s5)) (h6:name s5=(g,s6)) (h7:expect [[116,111]] s6=(u7,s7)) (h8:name s7=(t,s8)) (h9:expect [[59]] s8=(u9,s9)) (hn:o= [110,97,116,117,114,101]):
  Calls Tryd.prog 68 #[.pointer (some ⟨b,0,none⟩)] W fun e w'=>(∃sc sd sn,e= .returned (.agg (icells {flat0 with kind:=8,name:=n,word:=3,of_:= [],give:=g,to_:=t} sc sd sn nil).toArray)∧FlatOK W.heap.size {flat0 with kind:=8,name:=n,word:=3,of_:= [],give:=g,to_:=t} sc sd sn w')∧After E b s9 W w':=by
 have hbl:=h.2.2.1
 have HP:=hdd h;clear h
 have H1:=hdd h1;clear h1
 have H2:=hdd h2;clear h2
 have H3:=hdd h3;clear h3
 have H4:=hdd h4;clear h4
 have H5:=hdd h5;clear h5
 have H6:=hdd h6;clear h6
 have H7:=hdd h7;clear h7
 have H8:=hdd h8;clear h8
 have H9:=hdd h9;clear h9
 subst hn
 go_enter Tryd.func68,Tryd.ntmps68
 go_wp2_with fail
 refine (name_any E b s _ ((After.start HP.o).alloc _).1).mono ?_
 rw [H1.o]
 rintro e w1 ⟨rfl,hA⟩
 have GR:Hid (I0 W w1):=hA.2.blk (jq5 (by simp)) (by omega)
 have GA:=hdd (((After.start HP.o).alloc _).trans hA)
 have hs1:W.heap.size<w1.heap.size:=by have:=hA.2.size;simp only [World.size_alloc] at this;omega
 clear hA
 revert GR GA;intro HR HA
 go_wp2_with (first|(refine wpList_build rfl 57 _ rfl #[(0,.int .i64 8),(1,.string ⟨n.toArray⟩),(5,.int .i64 1)] ?_ _ (jv6 n _) ?_;(simp [Act.eval]))|(refine jq4 rfl 57 _ _ rfl rfl (icells {flat0 with kind:=8,name:=n,word:=1} nil nil nil nil).toArray rfl (jq6 _ _ _ _ _) (ic1 ..) (by rfl) ?_))
 refine (expect1 E b s1 [98,121] _ _ (by simp) (HA.o.alloc _).1).mono ?_
 rw [H2.o]
 rintro e w2 ⟨rfl,hA⟩
 have GR:Hid (I0 W w2):=hA.2.blk (jq9 HR.o _) (by omega)
 have GI:Hid (I4 w1.heap.size {flat0 with kind:=8,name:=n,word:=1} w2):=hA.2.blk (jq5 (by simp)) (by omega)
 have GA:=hdd ((HA.o.alloc _).trans hA)
 have hs2:W.heap.size<w2.heap.size:=by have:=hA.2.size;simp only [World.size_alloc] at this;omega
 clear hA
 clear HA HR
 revert GR GI GA;intro HR HI HA
 go_wp2_with fail
 refine (name_any E b s2 _ HA.o.1).mono ?_
 rw [H3.o]
 rintro e w3 ⟨rfl,hA⟩
 have GR:Hid (I0 W w3):=hA.2.blk HR.o (by omega)
 have GI:Hid (I4 w1.heap.size {flat0 with kind:=8,name:=n,word:=1} w3):=hA.2.blk HI.o (by omega)
 have GA:=hdd (HA.o.trans hA)
 have hs3:W.heap.size<w3.heap.size:=by have:=hA.2.size;omega
 clear hA
 clear HA HR HI
 revert GR GI GA;intro HR HI HA
 have kI_3:w3.cell? ⟨w1.heap.size,3,none⟩=some (.string ⟨#[]⟩):=jq0 HI.o 3
 have fI_3:w3.frozen? ⟨w1.heap.size,3,none⟩=false:=jq1 HI.o 3
 go_wp2_with fail
 refine (jx0 E b s3 [97,115,115,105,103,110,115] _ ((HA.o.set (i:=3) (by omega) (by omega) (.string ⟨[110,97,116,117,114,101].toArray⟩)).set (i:=3) (by omega) (by omega) (.string ⟨#[]⟩)).1).mono ?_
 rw [H4.o]
 rintro e w4 ⟨rfl,hA⟩
 have GR:Hid (I0 W w4):=hA.2.blk (jq2 (jq2 HR.o (by omega) (.string ⟨[110,97,116,117,114,101].toArray⟩)) (by omega) (.string ⟨#[]⟩)) (by omega)
 have GI:Hid (I4 w1.heap.size {flat0 with kind:=8,name:=n,word:=1,of_:= []} w4):=hA.2.blk (IB.set_of_ (IB.set_of_ HI.o [110,97,116,117,114,101]) []) (by omega)
 have GA:=hdd (((HA.o.set (i:=3) (by omega) (by omega) (.string ⟨[110,97,116,117,114,101].toArray⟩)).set (i:=3) (by omega) (by omega) (.string ⟨#[]⟩)).trans hA)
 have hs4:W.heap.size<w4.heap.size:=by have:=hA.2.size;simp only [World.size_setCell] at this;omega
 clear hA
 try clear kI_3 fI_3
 clear HA HR HI
 revert GR GI GA;intro HR HI HA
 go_wp2_with fail
 refine (jx0 E b s4 [110,111,118,97,116,101,115] _ HA.o.1).mono ?_
 rw [H5.o]
 rintro e w5 ⟨rfl,hA⟩
 have GR:Hid (I0 W w5):=hA.2.blk HR.o (by omega)
 have GI:Hid (I4 w1.heap.size {flat0 with kind:=8,name:=n,word:=1,of_:= []} w5):=hA.2.blk HI.o (by omega)
 have GA:=hdd (HA.o.trans hA)
 have hs5:W.heap.size<w5.heap.size:=by have:=hA.2.size;omega
 clear hA
 clear HA HR HI
 revert GR GI GA;intro HR HI HA
 have kI_5:w5.cell? ⟨w1.heap.size,5,none⟩=some (.int .i64 1):=jq0 HI.o 5
 have fI_5:w5.frozen? ⟨w1.heap.size,5,none⟩=false:=jq1 HI.o 5
 go_wp2_with fail
 refine (name_any E b s5 _ (HA.o.set (i:=5) (by omega) (by omega) (.int .i64 3)).1).mono ?_
 rw [H6.o]
 rintro e w6 ⟨rfl,hA⟩
 have GR:Hid (I0 W w6):=hA.2.blk (jq2 HR.o (by omega) (.int .i64 3)) (by omega)
 have GI:Hid (I4 w1.heap.size {flat0 with kind:=8,name:=n,word:=3,of_:= []} w6):=hA.2.blk (IB.set_word HI.o 3) (by omega)
 have GA:=hdd ((HA.o.set (i:=5) (by omega) (by omega) (.int .i64 3)).trans hA)
 have hs6:W.heap.size<w6.heap.size:=by have:=hA.2.size;simp only [World.size_setCell] at this;omega
 clear hA
 try clear kI_5 fI_5
 clear HA HR HI
 revert GR GI GA;intro HR HI HA
 have kI_21:w6.cell? ⟨w1.heap.size,21,none⟩=some (.string ⟨#[]⟩):=jq0 HI.o 21
 have fI_21:w6.frozen? ⟨w1.heap.size,21,none⟩=false:=jq1 HI.o 21
 go_wp2_with fail
 refine (expect1 E b s6 [116,111] _ _ (by simp) (HA.o.set (i:=21) (by omega) (by omega) (.string ⟨g.toArray⟩)).1).mono ?_
 rw [H7.o]
 rintro e w7 ⟨rfl,hA⟩
 have GR:Hid (I0 W w7):=hA.2.blk (jq2 HR.o (by omega) (.string ⟨g.toArray⟩)) (by omega)
 have GI:Hid (I4 w1.heap.size {flat0 with kind:=8,name:=n,word:=3,of_:= [],give:=g} w7):=hA.2.blk (IB.set_give HI.o g) (by omega)
 have GA:=hdd ((HA.o.set (i:=21) (by omega) (by omega) (.string ⟨g.toArray⟩)).trans hA)
 have hs7:W.heap.size<w7.heap.size:=by have:=hA.2.size;simp only [World.size_setCell] at this;omega
 clear hA
 try clear kI_21 fI_21
 clear HA HR HI
 revert GR GI GA;intro HR HI HA
 go_wp2_with fail
 refine (name_any E b s7 _ HA.o.1).mono ?_
 rw [H8.o]
 rintro e w8 ⟨rfl,hA⟩
 have GR:Hid (I0 W w8):=hA.2.blk HR.o (by omega)
 have GI:Hid (I4 w1.heap.size {flat0 with kind:=8,name:=n,word:=3,of_:= [],give:=g} w8):=hA.2.blk HI.o (by omega)
 have GA:=hdd (HA.o.trans hA)
 have hs8:W.heap.size<w8.heap.size:=by have:=hA.2.size;omega
 clear hA
 clear HA HR HI
 revert GR GI GA;intro HR HI HA
 have kI_22:w8.cell? ⟨w1.heap.size,22,none⟩=some (.string ⟨#[]⟩):=jq0 HI.o 22
 have fI_22:w8.frozen? ⟨w1.heap.size,22,none⟩=false:=jq1 HI.o 22
 go_wp2_with fail
 refine (expect1 E b s8 [59] _ _ (by simp) (HA.o.set (i:=22) (by omega) (by omega) (.string ⟨t.toArray⟩)).1).mono ?_
 rw [H9.o]
 rintro e w9 ⟨rfl,hA⟩
 have GR:Hid (I0 W w9):=hA.2.blk (jq2 HR.o (by omega) (.string ⟨t.toArray⟩)) (by omega)
 have GI:Hid (I4 w1.heap.size {flat0 with kind:=8,name:=n,word:=3,of_:= [],give:=g,to_:=t} w9):=hA.2.blk (IB.set_to_ HI.o t) (by omega)
 have GA:=hdd ((HA.o.set (i:=22) (by omega) (by omega) (.string ⟨t.toArray⟩)).trans hA)
 have hs9:W.heap.size<w9.heap.size:=by have:=hA.2.size;simp only [World.size_setCell] at this;omega
 clear hA
 try clear kI_22 fI_22
 clear HA HR HI
 revert GR GI GA;intro HR HI HA
 obtain ⟨w99,hw99,hA99,hl99,ho99⟩:=item_end (g:=flat0) (a1:=nil) (a2:=nil) (a3:=nil) (a4:=nil) HR.o HA.o hbl {flat0 with kind:=8,name:=n,word:=3,of_:= [],give:=g,to_:=t} nil nil nil nil
 have HW99:=hdd hw99;clear hw99
 have HA99:=hdd hA99;clear hA99
 have HL99:=hdd hl99;clear hl99 ho99
 have HI9:Hid (I4 w1.heap.size {flat0 with kind:=8,name:=n,word:=3,of_:= [],give:=g,to_:=t} _):=HI.o
 have HR9:Hid (I0 W _):=HR.o
 go_wp2_with (first|(refine wpList_load_mid rfl 57 _ rfl w1.heap.size 0 rfl (icells {flat0 with kind:=8,name:=n,word:=3,of_:= [],give:=g,to_:=t} nil nil nil nil) _ HI9.o.range Tryd.underlying57 rfl (jx6 _ _ _ _ _) ?_)|(refine wpList_store_mid rfl 57 _ _ rfl W.heap.size 0 (icells {flat0 with kind:=8,name:=n,word:=3,of_:= [],give:=g,to_:=t} nil nil nil nil).toArray rfl rfl (HR9.o.there' _ _ _ _ _) (jq6 _ _ _ _ _) (ic1 ..) ?_;rw [HW99.o]))
 exact bodyPost_ret (v:= .agg (icells {flat0 with kind:=8,name:=n,word:=3,of_:= [],give:=g,to_:=t} nil nil nil nil).toArray) (jq8 Tryd.results68 rfl HL99.o) rfl ⟨⟨nil,nil,nil,rfl,FlatOK.nil _ _ _ rfl rfl rfl⟩,HA99.o⟩
theorem act_p3 (E:Env) (b:Nat) (s:St) (W:World) (h:PW E b s W) (n:Bytes) (s1:St) (u2:Unit) (s2:St) (o:Bytes) (s3:St) (s4:St) (s5:St) (s6:St) (r:Ratio) (s7:St) (u:Bytes) (s8:St) (s9:St) (t:Bytes) (s10:St) (u11:Unit) (s11:St) (h1:name s=(n,s1)) (h2:expect [[98,121]] s1=(u2,s2)) (h3:name s2=(o,s3)) (h4:acc [97,115,115,105,103,110,115] s3=(false,s4)) (h5:acc [110,111,118,97,116,101,115] s4=(false,s5)) (h6:acc [109,111,118,101,115] s5=(true,s6)) (h7:ratio s6=(r,s7)) (h8:name s7=(u,s8)) (h9:acc [116,111] s8=(true,s9)) (h10:name s9=(t,s10)) (h11:expect [[59]] s10=(u11,s11)) (hn:o= [110,97,116,117,114,101]):
  Calls Tryd.prog 68 #[.pointer (some ⟨b,0,none⟩)] W fun e w'=>(∃sc sd sn,e= .returned (.agg (icells {flat0 with kind:=8,name:=n,word:=1,of_:= [],num:=r,unit:=u,to_:=t} sc sd sn nil).toArray)∧FlatOK W.heap.size {flat0 with kind:=8,name:=n,word:=1,of_:= [],num:=r,unit:=u,to_:=t} sc sd sn w')∧After E b s11 W w':=by
 have hbl:=h.2.2.1
 have HP:=hdd h;clear h
 have H1:=hdd h1;clear h1
 have H2:=hdd h2;clear h2
 have H3:=hdd h3;clear h3
 have H4:=hdd h4;clear h4
 have H5:=hdd h5;clear h5
 have H6:=hdd h6;clear h6
 have H7:=hdd h7;clear h7
 have H8:=hdd h8;clear h8
 have H9:=hdd h9;clear h9
 have H10:=hdd h10;clear h10
 have H11:=hdd h11;clear h11
 subst hn
 go_enter Tryd.func68,Tryd.ntmps68
 go_wp2_with fail
 refine (name_any E b s _ ((After.start HP.o).alloc _).1).mono ?_
 rw [H1.o]
 rintro e w1 ⟨rfl,hA⟩
 have GR:Hid (I0 W w1):=hA.2.blk (jq5 (by simp)) (by omega)
 have GA:=hdd (((After.start HP.o).alloc _).trans hA)
 have hs1:W.heap.size<w1.heap.size:=by have:=hA.2.size;simp only [World.size_alloc] at this;omega
 clear hA
 revert GR GA;intro HR HA
 go_wp2_with (first|(refine wpList_build rfl 57 _ rfl #[(0,.int .i64 8),(1,.string ⟨n.toArray⟩),(5,.int .i64 1)] ?_ _ (jv6 n _) ?_;(simp [Act.eval]))|(refine jq4 rfl 57 _ _ rfl rfl (icells {flat0 with kind:=8,name:=n,word:=1} nil nil nil nil).toArray rfl (jq6 _ _ _ _ _) (ic1 ..) (by rfl) ?_))
 refine (expect1 E b s1 [98,121] _ _ (by simp) (HA.o.alloc _).1).mono ?_
 rw [H2.o]
 rintro e w2 ⟨rfl,hA⟩
 have GR:Hid (I0 W w2):=hA.2.blk (jq9 HR.o _) (by omega)
 have GI:Hid (I4 w1.heap.size {flat0 with kind:=8,name:=n,word:=1} w2):=hA.2.blk (jq5 (by simp)) (by omega)
 have GA:=hdd ((HA.o.alloc _).trans hA)
 have hs2:W.heap.size<w2.heap.size:=by have:=hA.2.size;simp only [World.size_alloc] at this;omega
 clear hA
 clear HA HR
 revert GR GI GA;intro HR HI HA
 go_wp2_with fail
 refine (name_any E b s2 _ HA.o.1).mono ?_
 rw [H3.o]
 rintro e w3 ⟨rfl,hA⟩
 have GR:Hid (I0 W w3):=hA.2.blk HR.o (by omega)
 have GI:Hid (I4 w1.heap.size {flat0 with kind:=8,name:=n,word:=1} w3):=hA.2.blk HI.o (by omega)
 have GA:=hdd (HA.o.trans hA)
 have hs3:W.heap.size<w3.heap.size:=by have:=hA.2.size;omega
 clear hA
 clear HA HR HI
 revert GR GI GA;intro HR HI HA
 have kI_3:w3.cell? ⟨w1.heap.size,3,none⟩=some (.string ⟨#[]⟩):=jq0 HI.o 3
 have fI_3:w3.frozen? ⟨w1.heap.size,3,none⟩=false:=jq1 HI.o 3
 go_wp2_with fail
 refine (jx0 E b s3 [97,115,115,105,103,110,115] _ ((HA.o.set (i:=3) (by omega) (by omega) (.string ⟨[110,97,116,117,114,101].toArray⟩)).set (i:=3) (by omega) (by omega) (.string ⟨#[]⟩)).1).mono ?_
 rw [H4.o]
 rintro e w4 ⟨rfl,hA⟩
 have GR:Hid (I0 W w4):=hA.2.blk (jq2 (jq2 HR.o (by omega) (.string ⟨[110,97,116,117,114,101].toArray⟩)) (by omega) (.string ⟨#[]⟩)) (by omega)
 have GI:Hid (I4 w1.heap.size {flat0 with kind:=8,name:=n,word:=1,of_:= []} w4):=hA.2.blk (IB.set_of_ (IB.set_of_ HI.o [110,97,116,117,114,101]) []) (by omega)
 have GA:=hdd (((HA.o.set (i:=3) (by omega) (by omega) (.string ⟨[110,97,116,117,114,101].toArray⟩)).set (i:=3) (by omega) (by omega) (.string ⟨#[]⟩)).trans hA)
 have hs4:W.heap.size<w4.heap.size:=by have:=hA.2.size;simp only [World.size_setCell] at this;omega
 clear hA
 try clear kI_3 fI_3
 clear HA HR HI
 revert GR GI GA;intro HR HI HA
 go_wp2_with fail
 refine (jx0 E b s4 [110,111,118,97,116,101,115] _ HA.o.1).mono ?_
 rw [H5.o]
 rintro e w5 ⟨rfl,hA⟩
 have GR:Hid (I0 W w5):=hA.2.blk HR.o (by omega)
 have GI:Hid (I4 w1.heap.size {flat0 with kind:=8,name:=n,word:=1,of_:= []} w5):=hA.2.blk HI.o (by omega)
 have GA:=hdd (HA.o.trans hA)
 have hs5:W.heap.size<w5.heap.size:=by have:=hA.2.size;omega
 clear hA
 clear HA HR HI
 revert GR GI GA;intro HR HI HA
 have kI_5:w5.cell? ⟨w1.heap.size,5,none⟩=some (.int .i64 1):=jq0 HI.o 5
 have fI_5:w5.frozen? ⟨w1.heap.size,5,none⟩=false:=jq1 HI.o 5
 go_wp2_with fail
 refine (jx0 E b s5 [109,111,118,101,115] _ HA.o.1).mono ?_
 rw [H6.o]
 rintro e w6 ⟨rfl,hA⟩
 have GR:Hid (I0 W w6):=hA.2.blk HR.o (by omega)
 have GI:Hid (I4 w1.heap.size {flat0 with kind:=8,name:=n,word:=1,of_:= []} w6):=hA.2.blk HI.o (by omega)
 have GA:=hdd (HA.o.trans hA)
 have hs6:W.heap.size<w6.heap.size:=by have:=hA.2.size;omega
 clear hA
 try clear kI_5 fI_5
 clear HA HR HI
 revert GR GI GA;intro HR HI HA
 go_wp2_with fail
 refine (ratio_any E b s6 _ HA.o.1).mono ?_
 rw [H7.o]
 rintro e w7 ⟨rfl,hA⟩
 have GR:Hid (I0 W w7):=hA.2.blk HR.o (by omega)
 have GI:Hid (I4 w1.heap.size {flat0 with kind:=8,name:=n,word:=1,of_:= []} w7):=hA.2.blk HI.o (by omega)
 have GA:=hdd (HA.o.trans hA)
 have hs7:W.heap.size<w7.heap.size:=by have:=hA.2.size;omega
 clear hA
 clear HA HR HI
 revert GR GI GA;intro HR HI HA
 have kI_16:w7.cell? ⟨w1.heap.size,16,none⟩=some (.int .i64 0):=jq0 HI.o 16
 have fI_16:w7.frozen? ⟨w1.heap.size,16,none⟩=false:=jq1 HI.o 16
 have kI_17:w7.cell? ⟨w1.heap.size,17,none⟩=some (.int .i64 0):=jq0 HI.o 17
 have fI_17:w7.frozen? ⟨w1.heap.size,17,none⟩=false:=jq1 HI.o 17
 go_wp2_with fail
 refine (name_any E b s7 _ ((HA.o.set (i:=16) (by omega) (by omega) (.int .i64 (r.num:Int))).set (i:=17) (by omega) (by omega) (.int .i64 (r.den:Int))).1).mono ?_
 rw [H8.o]
 rintro e w8 ⟨rfl,hA⟩
 have GR:Hid (I0 W w8):=hA.2.blk (jq2 (jq2 HR.o (by omega) (.int .i64 (r.num:Int))) (by omega) (.int .i64 (r.den:Int))) (by omega)
 have GI:Hid (I4 w1.heap.size {flat0 with kind:=8,name:=n,word:=1,of_:= [],num:=r} w8):=hA.2.blk (IB.set_num HI.o r) (by omega)
 have GA:=hdd (((HA.o.set (i:=16) (by omega) (by omega) (.int .i64 (r.num:Int))).set (i:=17) (by omega) (by omega) (.int .i64 (r.den:Int))).trans hA)
 have hs8:W.heap.size<w8.heap.size:=by have:=hA.2.size;simp only [World.size_setCell] at this;omega
 clear hA
 try clear kI_16 fI_16 kI_17 fI_17
 clear HA HR HI
 revert GR GI GA;intro HR HI HA
 have kI_18:w8.cell? ⟨w1.heap.size,18,none⟩=some (.string ⟨#[]⟩):=jq0 HI.o 18
 have fI_18:w8.frozen? ⟨w1.heap.size,18,none⟩=false:=jq1 HI.o 18
 go_wp2_with fail
 refine (jx0 E b s8 [116,111] _ (HA.o.set (i:=18) (by omega) (by omega) (.string ⟨u.toArray⟩)).1).mono ?_
 rw [H9.o]
 rintro e w9 ⟨rfl,hA⟩
 have GR:Hid (I0 W w9):=hA.2.blk (jq2 HR.o (by omega) (.string ⟨u.toArray⟩)) (by omega)
 have GI:Hid (I4 w1.heap.size {flat0 with kind:=8,name:=n,word:=1,of_:= [],num:=r,unit:=u} w9):=hA.2.blk (IB.set_unit HI.o u) (by omega)
 have GA:=hdd ((HA.o.set (i:=18) (by omega) (by omega) (.string ⟨u.toArray⟩)).trans hA)
 have hs9:W.heap.size<w9.heap.size:=by have:=hA.2.size;simp only [World.size_setCell] at this;omega
 clear hA
 try clear kI_18 fI_18
 clear HA HR HI
 revert GR GI GA;intro HR HI HA
 go_wp2_with fail
 refine (name_any E b s9 _ HA.o.1).mono ?_
 rw [H10.o]
 rintro e w10 ⟨rfl,hA⟩
 have GR:Hid (I0 W w10):=hA.2.blk HR.o (by omega)
 have GI:Hid (I4 w1.heap.size {flat0 with kind:=8,name:=n,word:=1,of_:= [],num:=r,unit:=u} w10):=hA.2.blk HI.o (by omega)
 have GA:=hdd (HA.o.trans hA)
 have hs10:W.heap.size<w10.heap.size:=by have:=hA.2.size;omega
 clear hA
 clear HA HR HI
 revert GR GI GA;intro HR HI HA
 have kI_22:w10.cell? ⟨w1.heap.size,22,none⟩=some (.string ⟨#[]⟩):=jq0 HI.o 22
 have fI_22:w10.frozen? ⟨w1.heap.size,22,none⟩=false:=jq1 HI.o 22
 go_wp2_with fail
 refine (expect1 E b s10 [59] _ _ (by simp) (HA.o.set (i:=22) (by omega) (by omega) (.string ⟨t.toArray⟩)).1).mono ?_
 rw [H11.o]
 rintro e w11 ⟨rfl,hA⟩
 have GR:Hid (I0 W w11):=hA.2.blk (jq2 HR.o (by omega) (.string ⟨t.toArray⟩)) (by omega)
 have GI:Hid (I4 w1.heap.size {flat0 with kind:=8,name:=n,word:=1,of_:= [],num:=r,unit:=u,to_:=t} w11):=hA.2.blk (IB.set_to_ HI.o t) (by omega)
 have GA:=hdd ((HA.o.set (i:=22) (by omega) (by omega) (.string ⟨t.toArray⟩)).trans hA)
 have hs11:W.heap.size<w11.heap.size:=by have:=hA.2.size;simp only [World.size_setCell] at this;omega
 clear hA
 try clear kI_22 fI_22
 clear HA HR HI
 revert GR GI GA;intro HR HI HA
 obtain ⟨w99,hw99,hA99,hl99,ho99⟩:=item_end (g:=flat0) (a1:=nil) (a2:=nil) (a3:=nil) (a4:=nil) HR.o HA.o hbl {flat0 with kind:=8,name:=n,word:=1,of_:= [],num:=r,unit:=u,to_:=t} nil nil nil nil
 have HW99:=hdd hw99;clear hw99
 have HA99:=hdd hA99;clear hA99
 have HL99:=hdd hl99;clear hl99 ho99
 have HI9:Hid (I4 w1.heap.size {flat0 with kind:=8,name:=n,word:=1,of_:= [],num:=r,unit:=u,to_:=t} _):=HI.o
 have HR9:Hid (I0 W _):=HR.o
 go_wp2_with (first|(refine wpList_load_mid rfl 57 _ rfl w1.heap.size 0 rfl (icells {flat0 with kind:=8,name:=n,word:=1,of_:= [],num:=r,unit:=u,to_:=t} nil nil nil nil) _ HI9.o.range Tryd.underlying57 rfl (jx6 _ _ _ _ _) ?_)|(refine wpList_store_mid rfl 57 _ _ rfl W.heap.size 0 (icells {flat0 with kind:=8,name:=n,word:=1,of_:= [],num:=r,unit:=u,to_:=t} nil nil nil nil).toArray rfl rfl (HR9.o.there' _ _ _ _ _) (jq6 _ _ _ _ _) (ic1 ..) ?_;rw [HW99.o]))
 exact bodyPost_ret (v:= .agg (icells {flat0 with kind:=8,name:=n,word:=1,of_:= [],num:=r,unit:=u,to_:=t} nil nil nil nil).toArray) (jq8 Tryd.results68 rfl HL99.o) rfl ⟨⟨nil,nil,nil,rfl,FlatOK.nil _ _ _ rfl rfl rfl⟩,HA99.o⟩
theorem act_p4 (E:Env) (b:Nat) (s:St) (W:World) (h:PW E b s W) (n:Bytes) (s1:St) (u2:Unit) (s2:St) (o:Bytes) (s3:St) (s4:St) (s5:St) (s6:St) (r:Ratio) (s7:St) (u:Bytes) (s8:St) (s9:St) (u10:Unit) (s10:St) (h1:name s=(n,s1)) (h2:expect [[98,121]] s1=(u2,s2)) (h3:name s2=(o,s3)) (h4:acc [97,115,115,105,103,110,115] s3=(false,s4)) (h5:acc [110,111,118,97,116,101,115] s4=(false,s5)) (h6:acc [109,111,118,101,115] s5=(true,s6)) (h7:ratio s6=(r,s7)) (h8:name s7=(u,s8)) (h9:acc [116,111] s8=(false,s9)) (h10:expect [[59]] s9=(u10,s10)) (hn:o= [110,97,116,117,114,101]):
  Calls Tryd.prog 68 #[.pointer (some ⟨b,0,none⟩)] W fun e w'=>(∃sc sd sn,e= .returned (.agg (icells {flat0 with kind:=8,name:=n,word:=1,of_:= [],num:=r,unit:=u} sc sd sn nil).toArray)∧FlatOK W.heap.size {flat0 with kind:=8,name:=n,word:=1,of_:= [],num:=r,unit:=u} sc sd sn w')∧After E b s10 W w':=by
 have hbl:=h.2.2.1
 have HP:=hdd h;clear h
 have H1:=hdd h1;clear h1
 have H2:=hdd h2;clear h2
 have H3:=hdd h3;clear h3
 have H4:=hdd h4;clear h4
 have H5:=hdd h5;clear h5
 have H6:=hdd h6;clear h6
 have H7:=hdd h7;clear h7
 have H8:=hdd h8;clear h8
 have H9:=hdd h9;clear h9
 have H10:=hdd h10;clear h10
 subst hn
 go_enter Tryd.func68,Tryd.ntmps68
 go_wp2_with fail
 refine (name_any E b s _ ((After.start HP.o).alloc _).1).mono ?_
 rw [H1.o]
 rintro e w1 ⟨rfl,hA⟩
 have GR:Hid (I0 W w1):=hA.2.blk (jq5 (by simp)) (by omega)
 have GA:=hdd (((After.start HP.o).alloc _).trans hA)
 have hs1:W.heap.size<w1.heap.size:=by have:=hA.2.size;simp only [World.size_alloc] at this;omega
 clear hA
 revert GR GA;intro HR HA
 go_wp2_with (first|(refine wpList_build rfl 57 _ rfl #[(0,.int .i64 8),(1,.string ⟨n.toArray⟩),(5,.int .i64 1)] ?_ _ (jv6 n _) ?_;(simp [Act.eval]))|(refine jq4 rfl 57 _ _ rfl rfl (icells {flat0 with kind:=8,name:=n,word:=1} nil nil nil nil).toArray rfl (jq6 _ _ _ _ _) (ic1 ..) (by rfl) ?_))
 refine (expect1 E b s1 [98,121] _ _ (by simp) (HA.o.alloc _).1).mono ?_
 rw [H2.o]
 rintro e w2 ⟨rfl,hA⟩
 have GR:Hid (I0 W w2):=hA.2.blk (jq9 HR.o _) (by omega)
 have GI:Hid (I4 w1.heap.size {flat0 with kind:=8,name:=n,word:=1} w2):=hA.2.blk (jq5 (by simp)) (by omega)
 have GA:=hdd ((HA.o.alloc _).trans hA)
 have hs2:W.heap.size<w2.heap.size:=by have:=hA.2.size;simp only [World.size_alloc] at this;omega
 clear hA
 clear HA HR
 revert GR GI GA;intro HR HI HA
 go_wp2_with fail
 refine (name_any E b s2 _ HA.o.1).mono ?_
 rw [H3.o]
 rintro e w3 ⟨rfl,hA⟩
 have GR:Hid (I0 W w3):=hA.2.blk HR.o (by omega)
 have GI:Hid (I4 w1.heap.size {flat0 with kind:=8,name:=n,word:=1} w3):=hA.2.blk HI.o (by omega)
 have GA:=hdd (HA.o.trans hA)
 have hs3:W.heap.size<w3.heap.size:=by have:=hA.2.size;omega
 clear hA
 clear HA HR HI
 revert GR GI GA;intro HR HI HA
 have kI_3:w3.cell? ⟨w1.heap.size,3,none⟩=some (.string ⟨#[]⟩):=jq0 HI.o 3
 have fI_3:w3.frozen? ⟨w1.heap.size,3,none⟩=false:=jq1 HI.o 3
 go_wp2_with fail
 refine (jx0 E b s3 [97,115,115,105,103,110,115] _ ((HA.o.set (i:=3) (by omega) (by omega) (.string ⟨[110,97,116,117,114,101].toArray⟩)).set (i:=3) (by omega) (by omega) (.string ⟨#[]⟩)).1).mono ?_
 rw [H4.o]
 rintro e w4 ⟨rfl,hA⟩
 have GR:Hid (I0 W w4):=hA.2.blk (jq2 (jq2 HR.o (by omega) (.string ⟨[110,97,116,117,114,101].toArray⟩)) (by omega) (.string ⟨#[]⟩)) (by omega)
 have GI:Hid (I4 w1.heap.size {flat0 with kind:=8,name:=n,word:=1,of_:= []} w4):=hA.2.blk (IB.set_of_ (IB.set_of_ HI.o [110,97,116,117,114,101]) []) (by omega)
 have GA:=hdd (((HA.o.set (i:=3) (by omega) (by omega) (.string ⟨[110,97,116,117,114,101].toArray⟩)).set (i:=3) (by omega) (by omega) (.string ⟨#[]⟩)).trans hA)
 have hs4:W.heap.size<w4.heap.size:=by have:=hA.2.size;simp only [World.size_setCell] at this;omega
 clear hA
 try clear kI_3 fI_3
 clear HA HR HI
 revert GR GI GA;intro HR HI HA
 go_wp2_with fail
 refine (jx0 E b s4 [110,111,118,97,116,101,115] _ HA.o.1).mono ?_
 rw [H5.o]
 rintro e w5 ⟨rfl,hA⟩
 have GR:Hid (I0 W w5):=hA.2.blk HR.o (by omega)
 have GI:Hid (I4 w1.heap.size {flat0 with kind:=8,name:=n,word:=1,of_:= []} w5):=hA.2.blk HI.o (by omega)
 have GA:=hdd (HA.o.trans hA)
 have hs5:W.heap.size<w5.heap.size:=by have:=hA.2.size;omega
 clear hA
 clear HA HR HI
 revert GR GI GA;intro HR HI HA
 have kI_5:w5.cell? ⟨w1.heap.size,5,none⟩=some (.int .i64 1):=jq0 HI.o 5
 have fI_5:w5.frozen? ⟨w1.heap.size,5,none⟩=false:=jq1 HI.o 5
 go_wp2_with fail
 refine (jx0 E b s5 [109,111,118,101,115] _ HA.o.1).mono ?_
 rw [H6.o]
 rintro e w6 ⟨rfl,hA⟩
 have GR:Hid (I0 W w6):=hA.2.blk HR.o (by omega)
 have GI:Hid (I4 w1.heap.size {flat0 with kind:=8,name:=n,word:=1,of_:= []} w6):=hA.2.blk HI.o (by omega)
 have GA:=hdd (HA.o.trans hA)
 have hs6:W.heap.size<w6.heap.size:=by have:=hA.2.size;omega
 clear hA
 try clear kI_5 fI_5
 clear HA HR HI
 revert GR GI GA;intro HR HI HA
 go_wp2_with fail
 refine (ratio_any E b s6 _ HA.o.1).mono ?_
 rw [H7.o]
 rintro e w7 ⟨rfl,hA⟩
 have GR:Hid (I0 W w7):=hA.2.blk HR.o (by omega)
 have GI:Hid (I4 w1.heap.size {flat0 with kind:=8,name:=n,word:=1,of_:= []} w7):=hA.2.blk HI.o (by omega)
 have GA:=hdd (HA.o.trans hA)
 have hs7:W.heap.size<w7.heap.size:=by have:=hA.2.size;omega
 clear hA
 clear HA HR HI
 revert GR GI GA;intro HR HI HA
 have kI_16:w7.cell? ⟨w1.heap.size,16,none⟩=some (.int .i64 0):=jq0 HI.o 16
 have fI_16:w7.frozen? ⟨w1.heap.size,16,none⟩=false:=jq1 HI.o 16
 have kI_17:w7.cell? ⟨w1.heap.size,17,none⟩=some (.int .i64 0):=jq0 HI.o 17
 have fI_17:w7.frozen? ⟨w1.heap.size,17,none⟩=false:=jq1 HI.o 17
 go_wp2_with fail
 refine (name_any E b s7 _ ((HA.o.set (i:=16) (by omega) (by omega) (.int .i64 (r.num:Int))).set (i:=17) (by omega) (by omega) (.int .i64 (r.den:Int))).1).mono ?_
 rw [H8.o]
 rintro e w8 ⟨rfl,hA⟩
 have GR:Hid (I0 W w8):=hA.2.blk (jq2 (jq2 HR.o (by omega) (.int .i64 (r.num:Int))) (by omega) (.int .i64 (r.den:Int))) (by omega)
 have GI:Hid (I4 w1.heap.size {flat0 with kind:=8,name:=n,word:=1,of_:= [],num:=r} w8):=hA.2.blk (IB.set_num HI.o r) (by omega)
 have GA:=hdd (((HA.o.set (i:=16) (by omega) (by omega) (.int .i64 (r.num:Int))).set (i:=17) (by omega) (by omega) (.int .i64 (r.den:Int))).trans hA)
 have hs8:W.heap.size<w8.heap.size:=by have:=hA.2.size;simp only [World.size_setCell] at this;omega
 clear hA
 try clear kI_16 fI_16 kI_17 fI_17
 clear HA HR HI
 revert GR GI GA;intro HR HI HA
 have kI_18:w8.cell? ⟨w1.heap.size,18,none⟩=some (.string ⟨#[]⟩):=jq0 HI.o 18
 have fI_18:w8.frozen? ⟨w1.heap.size,18,none⟩=false:=jq1 HI.o 18
 go_wp2_with fail
 refine (jx0 E b s8 [116,111] _ (HA.o.set (i:=18) (by omega) (by omega) (.string ⟨u.toArray⟩)).1).mono ?_
 rw [H9.o]
 rintro e w9 ⟨rfl,hA⟩
 have GR:Hid (I0 W w9):=hA.2.blk (jq2 HR.o (by omega) (.string ⟨u.toArray⟩)) (by omega)
 have GI:Hid (I4 w1.heap.size {flat0 with kind:=8,name:=n,word:=1,of_:= [],num:=r,unit:=u} w9):=hA.2.blk (IB.set_unit HI.o u) (by omega)
 have GA:=hdd ((HA.o.set (i:=18) (by omega) (by omega) (.string ⟨u.toArray⟩)).trans hA)
 have hs9:W.heap.size<w9.heap.size:=by have:=hA.2.size;simp only [World.size_setCell] at this;omega
 clear hA
 try clear kI_18 fI_18
 clear HA HR HI
 revert GR GI GA;intro HR HI HA
 go_wp2_with fail
 refine (expect1 E b s9 [59] _ _ (by simp) HA.o.1).mono ?_
 rw [H10.o]
 rintro e w10 ⟨rfl,hA⟩
 have GR:Hid (I0 W w10):=hA.2.blk HR.o (by omega)
 have GI:Hid (I4 w1.heap.size {flat0 with kind:=8,name:=n,word:=1,of_:= [],num:=r,unit:=u} w10):=hA.2.blk HI.o (by omega)
 have GA:=hdd (HA.o.trans hA)
 have hs10:W.heap.size<w10.heap.size:=by have:=hA.2.size;omega
 clear hA
 clear HA HR HI
 revert GR GI GA;intro HR HI HA
 obtain ⟨w99,hw99,hA99,hl99,ho99⟩:=item_end (g:=flat0) (a1:=nil) (a2:=nil) (a3:=nil) (a4:=nil) HR.o HA.o hbl {flat0 with kind:=8,name:=n,word:=1,of_:= [],num:=r,unit:=u} nil nil nil nil
 have HW99:=hdd hw99;clear hw99
 have HA99:=hdd hA99;clear hA99
 have HL99:=hdd hl99;clear hl99 ho99
 have HI9:Hid (I4 w1.heap.size {flat0 with kind:=8,name:=n,word:=1,of_:= [],num:=r,unit:=u} _):=HI.o
 have HR9:Hid (I0 W _):=HR.o
 go_wp2_with (first|(refine wpList_load_mid rfl 57 _ rfl w1.heap.size 0 rfl (icells {flat0 with kind:=8,name:=n,word:=1,of_:= [],num:=r,unit:=u} nil nil nil nil) _ HI9.o.range Tryd.underlying57 rfl (jx6 _ _ _ _ _) ?_)|(refine wpList_store_mid rfl 57 _ _ rfl W.heap.size 0 (icells {flat0 with kind:=8,name:=n,word:=1,of_:= [],num:=r,unit:=u} nil nil nil nil).toArray rfl rfl (HR9.o.there' _ _ _ _ _) (jq6 _ _ _ _ _) (ic1 ..) ?_;rw [HW99.o]))
 exact bodyPost_ret (v:= .agg (icells {flat0 with kind:=8,name:=n,word:=1,of_:= [],num:=r,unit:=u} nil nil nil nil).toArray) (jq8 Tryd.results68 rfl HL99.o) rfl ⟨⟨nil,nil,nil,rfl,FlatOK.nil _ _ _ rfl rfl rfl⟩,HA99.o⟩
theorem act_p5 (E:Env) (b:Nat) (s:St) (W:World) (h:PW E b s W) (n:Bytes) (s1:St) (u2:Unit) (s2:St) (o:Bytes) (s3:St) (s4:St) (s5:St) (s6:St) (s7:St) (t:Bytes) (s8:St) (u9:Unit) (s9:St) (h1:name s=(n,s1)) (h2:expect [[98,121]] s1=(u2,s2)) (h3:name s2=(o,s3)) (h4:acc [97,115,115,105,103,110,115] s3=(false,s4)) (h5:acc [110,111,118,97,116,101,115] s4=(false,s5)) (h6:acc [109,111,118,101,115] s5=(false,s6)) (h7:acc [116,111] s6=(true,s7)) (h8:name s7=(t,s8)) (h9:expect [[59]] s8=(u9,s9)) (hn:o= [110,97,116,117,114,101]):
  Calls Tryd.prog 68 #[.pointer (some ⟨b,0,none⟩)] W fun e w'=>(∃sc sd sn,e= .returned (.agg (icells {flat0 with kind:=8,name:=n,word:=1,of_:= [],to_:=t} sc sd sn nil).toArray)∧FlatOK W.heap.size {flat0 with kind:=8,name:=n,word:=1,of_:= [],to_:=t} sc sd sn w')∧After E b s9 W w':=by
 have hbl:=h.2.2.1
 have HP:=hdd h;clear h
 have H1:=hdd h1;clear h1
 have H2:=hdd h2;clear h2
 have H3:=hdd h3;clear h3
 have H4:=hdd h4;clear h4
 have H5:=hdd h5;clear h5
 have H6:=hdd h6;clear h6
 have H7:=hdd h7;clear h7
 have H8:=hdd h8;clear h8
 have H9:=hdd h9;clear h9
 subst hn
 go_enter Tryd.func68,Tryd.ntmps68
 go_wp2_with fail
 refine (name_any E b s _ ((After.start HP.o).alloc _).1).mono ?_
 rw [H1.o]
 rintro e w1 ⟨rfl,hA⟩
 have GR:Hid (I0 W w1):=hA.2.blk (jq5 (by simp)) (by omega)
 have GA:=hdd (((After.start HP.o).alloc _).trans hA)
 have hs1:W.heap.size<w1.heap.size:=by have:=hA.2.size;simp only [World.size_alloc] at this;omega
 clear hA
 revert GR GA;intro HR HA
 go_wp2_with (first|(refine wpList_build rfl 57 _ rfl #[(0,.int .i64 8),(1,.string ⟨n.toArray⟩),(5,.int .i64 1)] ?_ _ (jv6 n _) ?_;(simp [Act.eval]))|(refine jq4 rfl 57 _ _ rfl rfl (icells {flat0 with kind:=8,name:=n,word:=1} nil nil nil nil).toArray rfl (jq6 _ _ _ _ _) (ic1 ..) (by rfl) ?_))
 refine (expect1 E b s1 [98,121] _ _ (by simp) (HA.o.alloc _).1).mono ?_
 rw [H2.o]
 rintro e w2 ⟨rfl,hA⟩
 have GR:Hid (I0 W w2):=hA.2.blk (jq9 HR.o _) (by omega)
 have GI:Hid (I4 w1.heap.size {flat0 with kind:=8,name:=n,word:=1} w2):=hA.2.blk (jq5 (by simp)) (by omega)
 have GA:=hdd ((HA.o.alloc _).trans hA)
 have hs2:W.heap.size<w2.heap.size:=by have:=hA.2.size;simp only [World.size_alloc] at this;omega
 clear hA
 clear HA HR
 revert GR GI GA;intro HR HI HA
 go_wp2_with fail
 refine (name_any E b s2 _ HA.o.1).mono ?_
 rw [H3.o]
 rintro e w3 ⟨rfl,hA⟩
 have GR:Hid (I0 W w3):=hA.2.blk HR.o (by omega)
 have GI:Hid (I4 w1.heap.size {flat0 with kind:=8,name:=n,word:=1} w3):=hA.2.blk HI.o (by omega)
 have GA:=hdd (HA.o.trans hA)
 have hs3:W.heap.size<w3.heap.size:=by have:=hA.2.size;omega
 clear hA
 clear HA HR HI
 revert GR GI GA;intro HR HI HA
 have kI_3:w3.cell? ⟨w1.heap.size,3,none⟩=some (.string ⟨#[]⟩):=jq0 HI.o 3
 have fI_3:w3.frozen? ⟨w1.heap.size,3,none⟩=false:=jq1 HI.o 3
 go_wp2_with fail
 refine (jx0 E b s3 [97,115,115,105,103,110,115] _ ((HA.o.set (i:=3) (by omega) (by omega) (.string ⟨[110,97,116,117,114,101].toArray⟩)).set (i:=3) (by omega) (by omega) (.string ⟨#[]⟩)).1).mono ?_
 rw [H4.o]
 rintro e w4 ⟨rfl,hA⟩
 have GR:Hid (I0 W w4):=hA.2.blk (jq2 (jq2 HR.o (by omega) (.string ⟨[110,97,116,117,114,101].toArray⟩)) (by omega) (.string ⟨#[]⟩)) (by omega)
 have GI:Hid (I4 w1.heap.size {flat0 with kind:=8,name:=n,word:=1,of_:= []} w4):=hA.2.blk (IB.set_of_ (IB.set_of_ HI.o [110,97,116,117,114,101]) []) (by omega)
 have GA:=hdd (((HA.o.set (i:=3) (by omega) (by omega) (.string ⟨[110,97,116,117,114,101].toArray⟩)).set (i:=3) (by omega) (by omega) (.string ⟨#[]⟩)).trans hA)
 have hs4:W.heap.size<w4.heap.size:=by have:=hA.2.size;simp only [World.size_setCell] at this;omega
 clear hA
 try clear kI_3 fI_3
 clear HA HR HI
 revert GR GI GA;intro HR HI HA
 go_wp2_with fail
 refine (jx0 E b s4 [110,111,118,97,116,101,115] _ HA.o.1).mono ?_
 rw [H5.o]
 rintro e w5 ⟨rfl,hA⟩
 have GR:Hid (I0 W w5):=hA.2.blk HR.o (by omega)
 have GI:Hid (I4 w1.heap.size {flat0 with kind:=8,name:=n,word:=1,of_:= []} w5):=hA.2.blk HI.o (by omega)
 have GA:=hdd (HA.o.trans hA)
 have hs5:W.heap.size<w5.heap.size:=by have:=hA.2.size;omega
 clear hA
 clear HA HR HI
 revert GR GI GA;intro HR HI HA
 have kI_5:w5.cell? ⟨w1.heap.size,5,none⟩=some (.int .i64 1):=jq0 HI.o 5
 have fI_5:w5.frozen? ⟨w1.heap.size,5,none⟩=false:=jq1 HI.o 5
 go_wp2_with fail
 refine (jx0 E b s5 [109,111,118,101,115] _ HA.o.1).mono ?_
 rw [H6.o]
 rintro e w6 ⟨rfl,hA⟩
 have GR:Hid (I0 W w6):=hA.2.blk HR.o (by omega)
 have GI:Hid (I4 w1.heap.size {flat0 with kind:=8,name:=n,word:=1,of_:= []} w6):=hA.2.blk HI.o (by omega)
 have GA:=hdd (HA.o.trans hA)
 have hs6:W.heap.size<w6.heap.size:=by have:=hA.2.size;omega
 clear hA
 try clear kI_5 fI_5
 clear HA HR HI
 revert GR GI GA;intro HR HI HA
 go_wp2_with fail
 refine (jx0 E b s6 [116,111] _ HA.o.1).mono ?_
 rw [H7.o]
 rintro e w7 ⟨rfl,hA⟩
 have GR:Hid (I0 W w7):=hA.2.blk HR.o (by omega)
 have GI:Hid (I4 w1.heap.size {flat0 with kind:=8,name:=n,word:=1,of_:= []} w7):=hA.2.blk HI.o (by omega)
 have GA:=hdd (HA.o.trans hA)
 have hs7:W.heap.size<w7.heap.size:=by have:=hA.2.size;omega
 clear hA
 clear HA HR HI
 revert GR GI GA;intro HR HI HA
 go_wp2_with fail
 refine (name_any E b s7 _ HA.o.1).mono ?_
 rw [H8.o]
 rintro e w8 ⟨rfl,hA⟩
 have GR:Hid (I0 W w8):=hA.2.blk HR.o (by omega)
 have GI:Hid (I4 w1.heap.size {flat0 with kind:=8,name:=n,word:=1,of_:= []} w8):=hA.2.blk HI.o (by omega)
 have GA:=hdd (HA.o.trans hA)
 have hs8:W.heap.size<w8.heap.size:=by have:=hA.2.size;omega
 clear hA
 clear HA HR HI
 revert GR GI GA;intro HR HI HA
 have kI_22:w8.cell? ⟨w1.heap.size,22,none⟩=some (.string ⟨#[]⟩):=jq0 HI.o 22
 have fI_22:w8.frozen? ⟨w1.heap.size,22,none⟩=false:=jq1 HI.o 22
 go_wp2_with fail
 refine (expect1 E b s8 [59] _ _ (by simp) (HA.o.set (i:=22) (by omega) (by omega) (.string ⟨t.toArray⟩)).1).mono ?_
 rw [H9.o]
 rintro e w9 ⟨rfl,hA⟩
 have GR:Hid (I0 W w9):=hA.2.blk (jq2 HR.o (by omega) (.string ⟨t.toArray⟩)) (by omega)
 have GI:Hid (I4 w1.heap.size {flat0 with kind:=8,name:=n,word:=1,of_:= [],to_:=t} w9):=hA.2.blk (IB.set_to_ HI.o t) (by omega)
 have GA:=hdd ((HA.o.set (i:=22) (by omega) (by omega) (.string ⟨t.toArray⟩)).trans hA)
 have hs9:W.heap.size<w9.heap.size:=by have:=hA.2.size;simp only [World.size_setCell] at this;omega
 clear hA
 try clear kI_22 fI_22
 clear HA HR HI
 revert GR GI GA;intro HR HI HA
 obtain ⟨w99,hw99,hA99,hl99,ho99⟩:=item_end (g:=flat0) (a1:=nil) (a2:=nil) (a3:=nil) (a4:=nil) HR.o HA.o hbl {flat0 with kind:=8,name:=n,word:=1,of_:= [],to_:=t} nil nil nil nil
 have HW99:=hdd hw99;clear hw99
 have HA99:=hdd hA99;clear hA99
 have HL99:=hdd hl99;clear hl99 ho99
 have HI9:Hid (I4 w1.heap.size {flat0 with kind:=8,name:=n,word:=1,of_:= [],to_:=t} _):=HI.o
 have HR9:Hid (I0 W _):=HR.o
 go_wp2_with (first|(refine wpList_load_mid rfl 57 _ rfl w1.heap.size 0 rfl (icells {flat0 with kind:=8,name:=n,word:=1,of_:= [],to_:=t} nil nil nil nil) _ HI9.o.range Tryd.underlying57 rfl (jx6 _ _ _ _ _) ?_)|(refine wpList_store_mid rfl 57 _ _ rfl W.heap.size 0 (icells {flat0 with kind:=8,name:=n,word:=1,of_:= [],to_:=t} nil nil nil nil).toArray rfl rfl (HR9.o.there' _ _ _ _ _) (jq6 _ _ _ _ _) (ic1 ..) ?_;rw [HW99.o]))
 exact bodyPost_ret (v:= .agg (icells {flat0 with kind:=8,name:=n,word:=1,of_:= [],to_:=t} nil nil nil nil).toArray) (jq8 Tryd.results68 rfl HL99.o) rfl ⟨⟨nil,nil,nil,rfl,FlatOK.nil _ _ _ rfl rfl rfl⟩,HA99.o⟩
theorem act_p6 (E:Env) (b:Nat) (s:St) (W:World) (h:PW E b s W) (n:Bytes) (s1:St) (u2:Unit) (s2:St) (o:Bytes) (s3:St) (s4:St) (s5:St) (s6:St) (s7:St) (u8:Unit) (s8:St) (h1:name s=(n,s1)) (h2:expect [[98,121]] s1=(u2,s2)) (h3:name s2=(o,s3)) (h4:acc [97,115,115,105,103,110,115] s3=(false,s4)) (h5:acc [110,111,118,97,116,101,115] s4=(false,s5)) (h6:acc [109,111,118,101,115] s5=(false,s6)) (h7:acc [116,111] s6=(false,s7)) (h8:expect [[59]] s7=(u8,s8)) (hn:o= [110,97,116,117,114,101]):
  Calls Tryd.prog 68 #[.pointer (some ⟨b,0,none⟩)] W fun e w'=>(∃sc sd sn,e= .returned (.agg (icells {flat0 with kind:=8,name:=n,word:=1,of_:= []} sc sd sn nil).toArray)∧FlatOK W.heap.size {flat0 with kind:=8,name:=n,word:=1,of_:= []} sc sd sn w')∧After E b s8 W w':=by
 have hbl:=h.2.2.1
 have HP:=hdd h;clear h
 have H1:=hdd h1;clear h1
 have H2:=hdd h2;clear h2
 have H3:=hdd h3;clear h3
 have H4:=hdd h4;clear h4
 have H5:=hdd h5;clear h5
 have H6:=hdd h6;clear h6
 have H7:=hdd h7;clear h7
 have H8:=hdd h8;clear h8
 subst hn
 go_enter Tryd.func68,Tryd.ntmps68
 go_wp2_with fail
 refine (name_any E b s _ ((After.start HP.o).alloc _).1).mono ?_
 rw [H1.o]
 rintro e w1 ⟨rfl,hA⟩
 have GR:Hid (I0 W w1):=hA.2.blk (jq5 (by simp)) (by omega)
 have GA:=hdd (((After.start HP.o).alloc _).trans hA)
 have hs1:W.heap.size<w1.heap.size:=by have:=hA.2.size;simp only [World.size_alloc] at this;omega
 clear hA
 revert GR GA;intro HR HA
 go_wp2_with (first|(refine wpList_build rfl 57 _ rfl #[(0,.int .i64 8),(1,.string ⟨n.toArray⟩),(5,.int .i64 1)] ?_ _ (jv6 n _) ?_;(simp [Act.eval]))|(refine jq4 rfl 57 _ _ rfl rfl (icells {flat0 with kind:=8,name:=n,word:=1} nil nil nil nil).toArray rfl (jq6 _ _ _ _ _) (ic1 ..) (by rfl) ?_))
 refine (expect1 E b s1 [98,121] _ _ (by simp) (HA.o.alloc _).1).mono ?_
 rw [H2.o]
 rintro e w2 ⟨rfl,hA⟩
 have GR:Hid (I0 W w2):=hA.2.blk (jq9 HR.o _) (by omega)
 have GI:Hid (I4 w1.heap.size {flat0 with kind:=8,name:=n,word:=1} w2):=hA.2.blk (jq5 (by simp)) (by omega)
 have GA:=hdd ((HA.o.alloc _).trans hA)
 have hs2:W.heap.size<w2.heap.size:=by have:=hA.2.size;simp only [World.size_alloc] at this;omega
 clear hA
 clear HA HR
 revert GR GI GA;intro HR HI HA
 go_wp2_with fail
 refine (name_any E b s2 _ HA.o.1).mono ?_
 rw [H3.o]
 rintro e w3 ⟨rfl,hA⟩
 have GR:Hid (I0 W w3):=hA.2.blk HR.o (by omega)
 have GI:Hid (I4 w1.heap.size {flat0 with kind:=8,name:=n,word:=1} w3):=hA.2.blk HI.o (by omega)
 have GA:=hdd (HA.o.trans hA)
 have hs3:W.heap.size<w3.heap.size:=by have:=hA.2.size;omega
 clear hA
 clear HA HR HI
 revert GR GI GA;intro HR HI HA
 have kI_3:w3.cell? ⟨w1.heap.size,3,none⟩=some (.string ⟨#[]⟩):=jq0 HI.o 3
 have fI_3:w3.frozen? ⟨w1.heap.size,3,none⟩=false:=jq1 HI.o 3
 go_wp2_with fail
 refine (jx0 E b s3 [97,115,115,105,103,110,115] _ ((HA.o.set (i:=3) (by omega) (by omega) (.string ⟨[110,97,116,117,114,101].toArray⟩)).set (i:=3) (by omega) (by omega) (.string ⟨#[]⟩)).1).mono ?_
 rw [H4.o]
 rintro e w4 ⟨rfl,hA⟩
 have GR:Hid (I0 W w4):=hA.2.blk (jq2 (jq2 HR.o (by omega) (.string ⟨[110,97,116,117,114,101].toArray⟩)) (by omega) (.string ⟨#[]⟩)) (by omega)
 have GI:Hid (I4 w1.heap.size {flat0 with kind:=8,name:=n,word:=1,of_:= []} w4):=hA.2.blk (IB.set_of_ (IB.set_of_ HI.o [110,97,116,117,114,101]) []) (by omega)
 have GA:=hdd (((HA.o.set (i:=3) (by omega) (by omega) (.string ⟨[110,97,116,117,114,101].toArray⟩)).set (i:=3) (by omega) (by omega) (.string ⟨#[]⟩)).trans hA)
 have hs4:W.heap.size<w4.heap.size:=by have:=hA.2.size;simp only [World.size_setCell] at this;omega
 clear hA
 try clear kI_3 fI_3
 clear HA HR HI
 revert GR GI GA;intro HR HI HA
 go_wp2_with fail
 refine (jx0 E b s4 [110,111,118,97,116,101,115] _ HA.o.1).mono ?_
 rw [H5.o]
 rintro e w5 ⟨rfl,hA⟩
 have GR:Hid (I0 W w5):=hA.2.blk HR.o (by omega)
 have GI:Hid (I4 w1.heap.size {flat0 with kind:=8,name:=n,word:=1,of_:= []} w5):=hA.2.blk HI.o (by omega)
 have GA:=hdd (HA.o.trans hA)
 have hs5:W.heap.size<w5.heap.size:=by have:=hA.2.size;omega
 clear hA
 clear HA HR HI
 revert GR GI GA;intro HR HI HA
 have kI_5:w5.cell? ⟨w1.heap.size,5,none⟩=some (.int .i64 1):=jq0 HI.o 5
 have fI_5:w5.frozen? ⟨w1.heap.size,5,none⟩=false:=jq1 HI.o 5
 go_wp2_with fail
 refine (jx0 E b s5 [109,111,118,101,115] _ HA.o.1).mono ?_
 rw [H6.o]
 rintro e w6 ⟨rfl,hA⟩
 have GR:Hid (I0 W w6):=hA.2.blk HR.o (by omega)
 have GI:Hid (I4 w1.heap.size {flat0 with kind:=8,name:=n,word:=1,of_:= []} w6):=hA.2.blk HI.o (by omega)
 have GA:=hdd (HA.o.trans hA)
 have hs6:W.heap.size<w6.heap.size:=by have:=hA.2.size;omega
 clear hA
 try clear kI_5 fI_5
 clear HA HR HI
 revert GR GI GA;intro HR HI HA
 go_wp2_with fail
 refine (jx0 E b s6 [116,111] _ HA.o.1).mono ?_
 rw [H7.o]
 rintro e w7 ⟨rfl,hA⟩
 have GR:Hid (I0 W w7):=hA.2.blk HR.o (by omega)
 have GI:Hid (I4 w1.heap.size {flat0 with kind:=8,name:=n,word:=1,of_:= []} w7):=hA.2.blk HI.o (by omega)
 have GA:=hdd (HA.o.trans hA)
 have hs7:W.heap.size<w7.heap.size:=by have:=hA.2.size;omega
 clear hA
 clear HA HR HI
 revert GR GI GA;intro HR HI HA
 go_wp2_with fail
 refine (expect1 E b s7 [59] _ _ (by simp) HA.o.1).mono ?_
 rw [H8.o]
 rintro e w8 ⟨rfl,hA⟩
 have GR:Hid (I0 W w8):=hA.2.blk HR.o (by omega)
 have GI:Hid (I4 w1.heap.size {flat0 with kind:=8,name:=n,word:=1,of_:= []} w8):=hA.2.blk HI.o (by omega)
 have GA:=hdd (HA.o.trans hA)
 have hs8:W.heap.size<w8.heap.size:=by have:=hA.2.size;omega
 clear hA
 clear HA HR HI
 revert GR GI GA;intro HR HI HA
 obtain ⟨w99,hw99,hA99,hl99,ho99⟩:=item_end (g:=flat0) (a1:=nil) (a2:=nil) (a3:=nil) (a4:=nil) HR.o HA.o hbl {flat0 with kind:=8,name:=n,word:=1,of_:= []} nil nil nil nil
 have HW99:=hdd hw99;clear hw99
 have HA99:=hdd hA99;clear hA99
 have HL99:=hdd hl99;clear hl99 ho99
 have HI9:Hid (I4 w1.heap.size {flat0 with kind:=8,name:=n,word:=1,of_:= []} _):=HI.o
 have HR9:Hid (I0 W _):=HR.o
 go_wp2_with (first|(refine wpList_load_mid rfl 57 _ rfl w1.heap.size 0 rfl (icells {flat0 with kind:=8,name:=n,word:=1,of_:= []} nil nil nil nil) _ HI9.o.range Tryd.underlying57 rfl (jx6 _ _ _ _ _) ?_)|(refine wpList_store_mid rfl 57 _ _ rfl W.heap.size 0 (icells {flat0 with kind:=8,name:=n,word:=1,of_:= []} nil nil nil nil).toArray rfl rfl (HR9.o.there' _ _ _ _ _) (jq6 _ _ _ _ _) (ic1 ..) ?_;rw [HW99.o]))
 exact bodyPost_ret (v:= .agg (icells {flat0 with kind:=8,name:=n,word:=1,of_:= []} nil nil nil nil).toArray) (jq8 Tryd.results68 rfl HL99.o) rfl ⟨⟨nil,nil,nil,rfl,FlatOK.nil _ _ _ rfl rfl rfl⟩,HA99.o⟩
theorem act_p7 (E:Env) (b:Nat) (s:St) (W:World) (h:PW E b s W) (n:Bytes) (s1:St) (u2:Unit) (s2:St) (o:Bytes) (s3:St) (s4:St) (g:Bytes) (s5:St) (u6:Unit) (s6:St) (t:Bytes) (s7:St) (u8:Unit) (s8:St) (h1:name s=(n,s1)) (h2:expect [[98,121]] s1=(u2,s2)) (h3:name s2=(o,s3)) (h4:acc [97,115,115,105,103,110,115] s3=(true,s4)) (h5:name s4=(g,s5)) (h6:expect [[116,111]] s5=(u6,s6)) (h7:name s6=(t,s7)) (h8:expect [[59]] s7=(u8,s8)) (hn:(o== [110,97,116,117,114,101])=false):
  Calls Tryd.prog 68 #[.pointer (some ⟨b,0,none⟩)] W fun e w'=>(∃sc sd sn,e= .returned (.agg (icells {flat0 with kind:=8,name:=n,word:=2,of_:=o,give:=g,to_:=t} sc sd sn nil).toArray)∧FlatOK W.heap.size {flat0 with kind:=8,name:=n,word:=2,of_:=o,give:=g,to_:=t} sc sd sn w')∧After E b s8 W w':=by
 have hbl:=h.2.2.1
 have HP:=hdd h;clear h
 have H1:=hdd h1;clear h1
 have H2:=hdd h2;clear h2
 have H3:=hdd h3;clear h3
 have H4:=hdd h4;clear h4
 have H5:=hdd h5;clear h5
 have H6:=hdd h6;clear h6
 have H7:=hdd h7;clear h7
 have H8:=hdd h8;clear h8
 go_enter Tryd.func68,Tryd.ntmps68
 go_wp2_with fail
 refine (name_any E b s _ ((After.start HP.o).alloc _).1).mono ?_
 rw [H1.o]
 rintro e w1 ⟨rfl,hA⟩
 have GR:Hid (I0 W w1):=hA.2.blk (jq5 (by simp)) (by omega)
 have GA:=hdd (((After.start HP.o).alloc _).trans hA)
 have hs1:W.heap.size<w1.heap.size:=by have:=hA.2.size;simp only [World.size_alloc] at this;omega
 clear hA
 revert GR GA;intro HR HA
 go_wp2_with (first|(refine wpList_build rfl 57 _ rfl #[(0,.int .i64 8),(1,.string ⟨n.toArray⟩),(5,.int .i64 1)] ?_ _ (jv6 n _) ?_;(simp [Act.eval]))|(refine jq4 rfl 57 _ _ rfl rfl (icells {flat0 with kind:=8,name:=n,word:=1} nil nil nil nil).toArray rfl (jq6 _ _ _ _ _) (ic1 ..) (by rfl) ?_))
 refine (expect1 E b s1 [98,121] _ _ (by simp) (HA.o.alloc _).1).mono ?_
 rw [H2.o]
 rintro e w2 ⟨rfl,hA⟩
 have GR:Hid (I0 W w2):=hA.2.blk (jq9 HR.o _) (by omega)
 have GI:Hid (I4 w1.heap.size {flat0 with kind:=8,name:=n,word:=1} w2):=hA.2.blk (jq5 (by simp)) (by omega)
 have GA:=hdd ((HA.o.alloc _).trans hA)
 have hs2:W.heap.size<w2.heap.size:=by have:=hA.2.size;simp only [World.size_alloc] at this;omega
 clear hA
 clear HA HR
 revert GR GI GA;intro HR HI HA
 go_wp2_with fail
 refine (name_any E b s2 _ HA.o.1).mono ?_
 rw [H3.o]
 rintro e w3 ⟨rfl,hA⟩
 have GR:Hid (I0 W w3):=hA.2.blk HR.o (by omega)
 have GI:Hid (I4 w1.heap.size {flat0 with kind:=8,name:=n,word:=1} w3):=hA.2.blk HI.o (by omega)
 have GA:=hdd (HA.o.trans hA)
 have hs3:W.heap.size<w3.heap.size:=by have:=hA.2.size;omega
 clear hA
 clear HA HR HI
 revert GR GI GA;intro HR HI HA
 have kI_3:w3.cell? ⟨w1.heap.size,3,none⟩=some (.string ⟨#[]⟩):=jq0 HI.o 3
 have fI_3:w3.frozen? ⟨w1.heap.size,3,none⟩=false:=jq1 HI.o 3
 go_wp2_with fail
 refine (jx0 E b s3 [97,115,115,105,103,110,115] _ (HA.o.set (i:=3) (by omega) (by omega) (.string ⟨o.toArray⟩)).1).mono ?_
 rw [H4.o]
 rintro e w4 ⟨rfl,hA⟩
 have GR:Hid (I0 W w4):=hA.2.blk (jq2 HR.o (by omega) (.string ⟨o.toArray⟩)) (by omega)
 have GI:Hid (I4 w1.heap.size {flat0 with kind:=8,name:=n,word:=1,of_:=o} w4):=hA.2.blk (IB.set_of_ HI.o o) (by omega)
 have GA:=hdd ((HA.o.set (i:=3) (by omega) (by omega) (.string ⟨o.toArray⟩)).trans hA)
 have hs4:W.heap.size<w4.heap.size:=by have:=hA.2.size;simp only [World.size_setCell] at this;omega
 clear hA
 try clear kI_3 fI_3
 clear HA HR HI
 revert GR GI GA;intro HR HI HA
 have kI_5:w4.cell? ⟨w1.heap.size,5,none⟩=some (.int .i64 1):=jq0 HI.o 5
 have fI_5:w4.frozen? ⟨w1.heap.size,5,none⟩=false:=jq1 HI.o 5
 go_wp2_with fail
 refine (name_any E b s4 _ (HA.o.set (i:=5) (by omega) (by omega) (.int .i64 2)).1).mono ?_
 rw [H5.o]
 rintro e w5 ⟨rfl,hA⟩
 have GR:Hid (I0 W w5):=hA.2.blk (jq2 HR.o (by omega) (.int .i64 2)) (by omega)
 have GI:Hid (I4 w1.heap.size {flat0 with kind:=8,name:=n,word:=2,of_:=o} w5):=hA.2.blk (IB.set_word HI.o 2) (by omega)
 have GA:=hdd ((HA.o.set (i:=5) (by omega) (by omega) (.int .i64 2)).trans hA)
 have hs5:W.heap.size<w5.heap.size:=by have:=hA.2.size;simp only [World.size_setCell] at this;omega
 clear hA
 try clear kI_5 fI_5
 clear HA HR HI
 revert GR GI GA;intro HR HI HA
 have kI_21:w5.cell? ⟨w1.heap.size,21,none⟩=some (.string ⟨#[]⟩):=jq0 HI.o 21
 have fI_21:w5.frozen? ⟨w1.heap.size,21,none⟩=false:=jq1 HI.o 21
 go_wp2_with fail
 refine (expect1 E b s5 [116,111] _ _ (by simp) (HA.o.set (i:=21) (by omega) (by omega) (.string ⟨g.toArray⟩)).1).mono ?_
 rw [H6.o]
 rintro e w6 ⟨rfl,hA⟩
 have GR:Hid (I0 W w6):=hA.2.blk (jq2 HR.o (by omega) (.string ⟨g.toArray⟩)) (by omega)
 have GI:Hid (I4 w1.heap.size {flat0 with kind:=8,name:=n,word:=2,of_:=o,give:=g} w6):=hA.2.blk (IB.set_give HI.o g) (by omega)
 have GA:=hdd ((HA.o.set (i:=21) (by omega) (by omega) (.string ⟨g.toArray⟩)).trans hA)
 have hs6:W.heap.size<w6.heap.size:=by have:=hA.2.size;simp only [World.size_setCell] at this;omega
 clear hA
 try clear kI_21 fI_21
 clear HA HR HI
 revert GR GI GA;intro HR HI HA
 go_wp2_with fail
 refine (name_any E b s6 _ HA.o.1).mono ?_
 rw [H7.o]
 rintro e w7 ⟨rfl,hA⟩
 have GR:Hid (I0 W w7):=hA.2.blk HR.o (by omega)
 have GI:Hid (I4 w1.heap.size {flat0 with kind:=8,name:=n,word:=2,of_:=o,give:=g} w7):=hA.2.blk HI.o (by omega)
 have GA:=hdd (HA.o.trans hA)
 have hs7:W.heap.size<w7.heap.size:=by have:=hA.2.size;omega
 clear hA
 clear HA HR HI
 revert GR GI GA;intro HR HI HA
 have kI_22:w7.cell? ⟨w1.heap.size,22,none⟩=some (.string ⟨#[]⟩):=jq0 HI.o 22
 have fI_22:w7.frozen? ⟨w1.heap.size,22,none⟩=false:=jq1 HI.o 22
 go_wp2_with fail
 refine (expect1 E b s7 [59] _ _ (by simp) (HA.o.set (i:=22) (by omega) (by omega) (.string ⟨t.toArray⟩)).1).mono ?_
 rw [H8.o]
 rintro e w8 ⟨rfl,hA⟩
 have GR:Hid (I0 W w8):=hA.2.blk (jq2 HR.o (by omega) (.string ⟨t.toArray⟩)) (by omega)
 have GI:Hid (I4 w1.heap.size {flat0 with kind:=8,name:=n,word:=2,of_:=o,give:=g,to_:=t} w8):=hA.2.blk (IB.set_to_ HI.o t) (by omega)
 have GA:=hdd ((HA.o.set (i:=22) (by omega) (by omega) (.string ⟨t.toArray⟩)).trans hA)
 have hs8:W.heap.size<w8.heap.size:=by have:=hA.2.size;simp only [World.size_setCell] at this;omega
 clear hA
 try clear kI_22 fI_22
 clear HA HR HI
 revert GR GI GA;intro HR HI HA
 obtain ⟨w99,hw99,hA99,hl99,ho99⟩:=item_end (g:=flat0) (a1:=nil) (a2:=nil) (a3:=nil) (a4:=nil) HR.o HA.o hbl {flat0 with kind:=8,name:=n,word:=2,of_:=o,give:=g,to_:=t} nil nil nil nil
 have HW99:=hdd hw99;clear hw99
 have HA99:=hdd hA99;clear hA99
 have HL99:=hdd hl99;clear hl99 ho99
 have HI9:Hid (I4 w1.heap.size {flat0 with kind:=8,name:=n,word:=2,of_:=o,give:=g,to_:=t} _):=HI.o
 have HR9:Hid (I0 W _):=HR.o
 go_wp2_with (first|(refine wpList_load_mid rfl 57 _ rfl w1.heap.size 0 rfl (icells {flat0 with kind:=8,name:=n,word:=2,of_:=o,give:=g,to_:=t} nil nil nil nil) _ HI9.o.range Tryd.underlying57 rfl (jx6 _ _ _ _ _) ?_)|(refine wpList_store_mid rfl 57 _ _ rfl W.heap.size 0 (icells {flat0 with kind:=8,name:=n,word:=2,of_:=o,give:=g,to_:=t} nil nil nil nil).toArray rfl rfl (HR9.o.there' _ _ _ _ _) (jq6 _ _ _ _ _) (ic1 ..) ?_;rw [HW99.o]))
 exact bodyPost_ret (v:= .agg (icells {flat0 with kind:=8,name:=n,word:=2,of_:=o,give:=g,to_:=t} nil nil nil nil).toArray) (jq8 Tryd.results68 rfl HL99.o) rfl ⟨⟨nil,nil,nil,rfl,FlatOK.nil _ _ _ rfl rfl rfl⟩,HA99.o⟩
theorem act_p8 (E:Env) (b:Nat) (s:St) (W:World) (h:PW E b s W) (n:Bytes) (s1:St) (u2:Unit) (s2:St) (o:Bytes) (s3:St) (s4:St) (s5:St) (g:Bytes) (s6:St) (u7:Unit) (s7:St) (t:Bytes) (s8:St) (u9:Unit) (s9:St) (h1:name s=(n,s1)) (h2:expect [[98,121]] s1=(u2,s2)) (h3:name s2=(o,s3)) (h4:acc [97,115,115,105,103,110,115] s3=(false,s4)) (h5:acc [110,111,118,97,116,101,115] s4=(true,s5)) (h6:name s5=(g,s6)) (h7:expect [[116,111]] s6=(u7,s7)) (h8:name s7=(t,s8)) (h9:expect [[59]] s8=(u9,s9)) (hn:(o== [110,97,116,117,114,101])=false):
  Calls Tryd.prog 68 #[.pointer (some ⟨b,0,none⟩)] W fun e w'=>(∃sc sd sn,e= .returned (.agg (icells {flat0 with kind:=8,name:=n,word:=3,of_:=o,give:=g,to_:=t} sc sd sn nil).toArray)∧FlatOK W.heap.size {flat0 with kind:=8,name:=n,word:=3,of_:=o,give:=g,to_:=t} sc sd sn w')∧After E b s9 W w':=by
 have hbl:=h.2.2.1
 have HP:=hdd h;clear h
 have H1:=hdd h1;clear h1
 have H2:=hdd h2;clear h2
 have H3:=hdd h3;clear h3
 have H4:=hdd h4;clear h4
 have H5:=hdd h5;clear h5
 have H6:=hdd h6;clear h6
 have H7:=hdd h7;clear h7
 have H8:=hdd h8;clear h8
 have H9:=hdd h9;clear h9
 go_enter Tryd.func68,Tryd.ntmps68
 go_wp2_with fail
 refine (name_any E b s _ ((After.start HP.o).alloc _).1).mono ?_
 rw [H1.o]
 rintro e w1 ⟨rfl,hA⟩
 have GR:Hid (I0 W w1):=hA.2.blk (jq5 (by simp)) (by omega)
 have GA:=hdd (((After.start HP.o).alloc _).trans hA)
 have hs1:W.heap.size<w1.heap.size:=by have:=hA.2.size;simp only [World.size_alloc] at this;omega
 clear hA
 revert GR GA;intro HR HA
 go_wp2_with (first|(refine wpList_build rfl 57 _ rfl #[(0,.int .i64 8),(1,.string ⟨n.toArray⟩),(5,.int .i64 1)] ?_ _ (jv6 n _) ?_;(simp [Act.eval]))|(refine jq4 rfl 57 _ _ rfl rfl (icells {flat0 with kind:=8,name:=n,word:=1} nil nil nil nil).toArray rfl (jq6 _ _ _ _ _) (ic1 ..) (by rfl) ?_))
 refine (expect1 E b s1 [98,121] _ _ (by simp) (HA.o.alloc _).1).mono ?_
 rw [H2.o]
 rintro e w2 ⟨rfl,hA⟩
 have GR:Hid (I0 W w2):=hA.2.blk (jq9 HR.o _) (by omega)
 have GI:Hid (I4 w1.heap.size {flat0 with kind:=8,name:=n,word:=1} w2):=hA.2.blk (jq5 (by simp)) (by omega)
 have GA:=hdd ((HA.o.alloc _).trans hA)
 have hs2:W.heap.size<w2.heap.size:=by have:=hA.2.size;simp only [World.size_alloc] at this;omega
 clear hA
 clear HA HR
 revert GR GI GA;intro HR HI HA
 go_wp2_with fail
 refine (name_any E b s2 _ HA.o.1).mono ?_
 rw [H3.o]
 rintro e w3 ⟨rfl,hA⟩
 have GR:Hid (I0 W w3):=hA.2.blk HR.o (by omega)
 have GI:Hid (I4 w1.heap.size {flat0 with kind:=8,name:=n,word:=1} w3):=hA.2.blk HI.o (by omega)
 have GA:=hdd (HA.o.trans hA)
 have hs3:W.heap.size<w3.heap.size:=by have:=hA.2.size;omega
 clear hA
 clear HA HR HI
 revert GR GI GA;intro HR HI HA
 have kI_3:w3.cell? ⟨w1.heap.size,3,none⟩=some (.string ⟨#[]⟩):=jq0 HI.o 3
 have fI_3:w3.frozen? ⟨w1.heap.size,3,none⟩=false:=jq1 HI.o 3
 go_wp2_with fail
 refine (jx0 E b s3 [97,115,115,105,103,110,115] _ (HA.o.set (i:=3) (by omega) (by omega) (.string ⟨o.toArray⟩)).1).mono ?_
 rw [H4.o]
 rintro e w4 ⟨rfl,hA⟩
 have GR:Hid (I0 W w4):=hA.2.blk (jq2 HR.o (by omega) (.string ⟨o.toArray⟩)) (by omega)
 have GI:Hid (I4 w1.heap.size {flat0 with kind:=8,name:=n,word:=1,of_:=o} w4):=hA.2.blk (IB.set_of_ HI.o o) (by omega)
 have GA:=hdd ((HA.o.set (i:=3) (by omega) (by omega) (.string ⟨o.toArray⟩)).trans hA)
 have hs4:W.heap.size<w4.heap.size:=by have:=hA.2.size;simp only [World.size_setCell] at this;omega
 clear hA
 try clear kI_3 fI_3
 clear HA HR HI
 revert GR GI GA;intro HR HI HA
 go_wp2_with fail
 refine (jx0 E b s4 [110,111,118,97,116,101,115] _ HA.o.1).mono ?_
 rw [H5.o]
 rintro e w5 ⟨rfl,hA⟩
 have GR:Hid (I0 W w5):=hA.2.blk HR.o (by omega)
 have GI:Hid (I4 w1.heap.size {flat0 with kind:=8,name:=n,word:=1,of_:=o} w5):=hA.2.blk HI.o (by omega)
 have GA:=hdd (HA.o.trans hA)
 have hs5:W.heap.size<w5.heap.size:=by have:=hA.2.size;omega
 clear hA
 clear HA HR HI
 revert GR GI GA;intro HR HI HA
 have kI_5:w5.cell? ⟨w1.heap.size,5,none⟩=some (.int .i64 1):=jq0 HI.o 5
 have fI_5:w5.frozen? ⟨w1.heap.size,5,none⟩=false:=jq1 HI.o 5
 go_wp2_with fail
 refine (name_any E b s5 _ (HA.o.set (i:=5) (by omega) (by omega) (.int .i64 3)).1).mono ?_
 rw [H6.o]
 rintro e w6 ⟨rfl,hA⟩
 have GR:Hid (I0 W w6):=hA.2.blk (jq2 HR.o (by omega) (.int .i64 3)) (by omega)
 have GI:Hid (I4 w1.heap.size {flat0 with kind:=8,name:=n,word:=3,of_:=o} w6):=hA.2.blk (IB.set_word HI.o 3) (by omega)
 have GA:=hdd ((HA.o.set (i:=5) (by omega) (by omega) (.int .i64 3)).trans hA)
 have hs6:W.heap.size<w6.heap.size:=by have:=hA.2.size;simp only [World.size_setCell] at this;omega
 clear hA
 try clear kI_5 fI_5
 clear HA HR HI
 revert GR GI GA;intro HR HI HA
 have kI_21:w6.cell? ⟨w1.heap.size,21,none⟩=some (.string ⟨#[]⟩):=jq0 HI.o 21
 have fI_21:w6.frozen? ⟨w1.heap.size,21,none⟩=false:=jq1 HI.o 21
 go_wp2_with fail
 refine (expect1 E b s6 [116,111] _ _ (by simp) (HA.o.set (i:=21) (by omega) (by omega) (.string ⟨g.toArray⟩)).1).mono ?_
 rw [H7.o]
 rintro e w7 ⟨rfl,hA⟩
 have GR:Hid (I0 W w7):=hA.2.blk (jq2 HR.o (by omega) (.string ⟨g.toArray⟩)) (by omega)
 have GI:Hid (I4 w1.heap.size {flat0 with kind:=8,name:=n,word:=3,of_:=o,give:=g} w7):=hA.2.blk (IB.set_give HI.o g) (by omega)
 have GA:=hdd ((HA.o.set (i:=21) (by omega) (by omega) (.string ⟨g.toArray⟩)).trans hA)
 have hs7:W.heap.size<w7.heap.size:=by have:=hA.2.size;simp only [World.size_setCell] at this;omega
 clear hA
 try clear kI_21 fI_21
 clear HA HR HI
 revert GR GI GA;intro HR HI HA
 go_wp2_with fail
 refine (name_any E b s7 _ HA.o.1).mono ?_
 rw [H8.o]
 rintro e w8 ⟨rfl,hA⟩
 have GR:Hid (I0 W w8):=hA.2.blk HR.o (by omega)
 have GI:Hid (I4 w1.heap.size {flat0 with kind:=8,name:=n,word:=3,of_:=o,give:=g} w8):=hA.2.blk HI.o (by omega)
 have GA:=hdd (HA.o.trans hA)
 have hs8:W.heap.size<w8.heap.size:=by have:=hA.2.size;omega
 clear hA
 clear HA HR HI
 revert GR GI GA;intro HR HI HA
 have kI_22:w8.cell? ⟨w1.heap.size,22,none⟩=some (.string ⟨#[]⟩):=jq0 HI.o 22
 have fI_22:w8.frozen? ⟨w1.heap.size,22,none⟩=false:=jq1 HI.o 22
 go_wp2_with fail
 refine (expect1 E b s8 [59] _ _ (by simp) (HA.o.set (i:=22) (by omega) (by omega) (.string ⟨t.toArray⟩)).1).mono ?_
 rw [H9.o]
 rintro e w9 ⟨rfl,hA⟩
 have GR:Hid (I0 W w9):=hA.2.blk (jq2 HR.o (by omega) (.string ⟨t.toArray⟩)) (by omega)
 have GI:Hid (I4 w1.heap.size {flat0 with kind:=8,name:=n,word:=3,of_:=o,give:=g,to_:=t} w9):=hA.2.blk (IB.set_to_ HI.o t) (by omega)
 have GA:=hdd ((HA.o.set (i:=22) (by omega) (by omega) (.string ⟨t.toArray⟩)).trans hA)
 have hs9:W.heap.size<w9.heap.size:=by have:=hA.2.size;simp only [World.size_setCell] at this;omega
 clear hA
 try clear kI_22 fI_22
 clear HA HR HI
 revert GR GI GA;intro HR HI HA
 obtain ⟨w99,hw99,hA99,hl99,ho99⟩:=item_end (g:=flat0) (a1:=nil) (a2:=nil) (a3:=nil) (a4:=nil) HR.o HA.o hbl {flat0 with kind:=8,name:=n,word:=3,of_:=o,give:=g,to_:=t} nil nil nil nil
 have HW99:=hdd hw99;clear hw99
 have HA99:=hdd hA99;clear hA99
 have HL99:=hdd hl99;clear hl99 ho99
 have HI9:Hid (I4 w1.heap.size {flat0 with kind:=8,name:=n,word:=3,of_:=o,give:=g,to_:=t} _):=HI.o
 have HR9:Hid (I0 W _):=HR.o
 go_wp2_with (first|(refine wpList_load_mid rfl 57 _ rfl w1.heap.size 0 rfl (icells {flat0 with kind:=8,name:=n,word:=3,of_:=o,give:=g,to_:=t} nil nil nil nil) _ HI9.o.range Tryd.underlying57 rfl (jx6 _ _ _ _ _) ?_)|(refine wpList_store_mid rfl 57 _ _ rfl W.heap.size 0 (icells {flat0 with kind:=8,name:=n,word:=3,of_:=o,give:=g,to_:=t} nil nil nil nil).toArray rfl rfl (HR9.o.there' _ _ _ _ _) (jq6 _ _ _ _ _) (ic1 ..) ?_;rw [HW99.o]))
 exact bodyPost_ret (v:= .agg (icells {flat0 with kind:=8,name:=n,word:=3,of_:=o,give:=g,to_:=t} nil nil nil nil).toArray) (jq8 Tryd.results68 rfl HL99.o) rfl ⟨⟨nil,nil,nil,rfl,FlatOK.nil _ _ _ rfl rfl rfl⟩,HA99.o⟩
theorem act_p9 (E:Env) (b:Nat) (s:St) (W:World) (h:PW E b s W) (n:Bytes) (s1:St) (u2:Unit) (s2:St) (o:Bytes) (s3:St) (s4:St) (s5:St) (s6:St) (r:Ratio) (s7:St) (u:Bytes) (s8:St) (s9:St) (t:Bytes) (s10:St) (u11:Unit) (s11:St) (h1:name s=(n,s1)) (h2:expect [[98,121]] s1=(u2,s2)) (h3:name s2=(o,s3)) (h4:acc [97,115,115,105,103,110,115] s3=(false,s4)) (h5:acc [110,111,118,97,116,101,115] s4=(false,s5)) (h6:acc [109,111,118,101,115] s5=(true,s6)) (h7:ratio s6=(r,s7)) (h8:name s7=(u,s8)) (h9:acc [116,111] s8=(true,s9)) (h10:name s9=(t,s10)) (h11:expect [[59]] s10=(u11,s11)) (hn:(o== [110,97,116,117,114,101])=false):
  Calls Tryd.prog 68 #[.pointer (some ⟨b,0,none⟩)] W fun e w'=>(∃sc sd sn,e= .returned (.agg (icells {flat0 with kind:=8,name:=n,word:=1,of_:=o,num:=r,unit:=u,to_:=t} sc sd sn nil).toArray)∧FlatOK W.heap.size {flat0 with kind:=8,name:=n,word:=1,of_:=o,num:=r,unit:=u,to_:=t} sc sd sn w')∧After E b s11 W w':=by
 have hbl:=h.2.2.1
 have HP:=hdd h;clear h
 have H1:=hdd h1;clear h1
 have H2:=hdd h2;clear h2
 have H3:=hdd h3;clear h3
 have H4:=hdd h4;clear h4
 have H5:=hdd h5;clear h5
 have H6:=hdd h6;clear h6
 have H7:=hdd h7;clear h7
 have H8:=hdd h8;clear h8
 have H9:=hdd h9;clear h9
 have H10:=hdd h10;clear h10
 have H11:=hdd h11;clear h11
 go_enter Tryd.func68,Tryd.ntmps68
 go_wp2_with fail
 refine (name_any E b s _ ((After.start HP.o).alloc _).1).mono ?_
 rw [H1.o]
 rintro e w1 ⟨rfl,hA⟩
 have GR:Hid (I0 W w1):=hA.2.blk (jq5 (by simp)) (by omega)
 have GA:=hdd (((After.start HP.o).alloc _).trans hA)
 have hs1:W.heap.size<w1.heap.size:=by have:=hA.2.size;simp only [World.size_alloc] at this;omega
 clear hA
 revert GR GA;intro HR HA
 go_wp2_with (first|(refine wpList_build rfl 57 _ rfl #[(0,.int .i64 8),(1,.string ⟨n.toArray⟩),(5,.int .i64 1)] ?_ _ (jv6 n _) ?_;(simp [Act.eval]))|(refine jq4 rfl 57 _ _ rfl rfl (icells {flat0 with kind:=8,name:=n,word:=1} nil nil nil nil).toArray rfl (jq6 _ _ _ _ _) (ic1 ..) (by rfl) ?_))
 refine (expect1 E b s1 [98,121] _ _ (by simp) (HA.o.alloc _).1).mono ?_
 rw [H2.o]
 rintro e w2 ⟨rfl,hA⟩
 have GR:Hid (I0 W w2):=hA.2.blk (jq9 HR.o _) (by omega)
 have GI:Hid (I4 w1.heap.size {flat0 with kind:=8,name:=n,word:=1} w2):=hA.2.blk (jq5 (by simp)) (by omega)
 have GA:=hdd ((HA.o.alloc _).trans hA)
 have hs2:W.heap.size<w2.heap.size:=by have:=hA.2.size;simp only [World.size_alloc] at this;omega
 clear hA
 clear HA HR
 revert GR GI GA;intro HR HI HA
 go_wp2_with fail
 refine (name_any E b s2 _ HA.o.1).mono ?_
 rw [H3.o]
 rintro e w3 ⟨rfl,hA⟩
 have GR:Hid (I0 W w3):=hA.2.blk HR.o (by omega)
 have GI:Hid (I4 w1.heap.size {flat0 with kind:=8,name:=n,word:=1} w3):=hA.2.blk HI.o (by omega)
 have GA:=hdd (HA.o.trans hA)
 have hs3:W.heap.size<w3.heap.size:=by have:=hA.2.size;omega
 clear hA
 clear HA HR HI
 revert GR GI GA;intro HR HI HA
 have kI_3:w3.cell? ⟨w1.heap.size,3,none⟩=some (.string ⟨#[]⟩):=jq0 HI.o 3
 have fI_3:w3.frozen? ⟨w1.heap.size,3,none⟩=false:=jq1 HI.o 3
 go_wp2_with fail
 refine (jx0 E b s3 [97,115,115,105,103,110,115] _ (HA.o.set (i:=3) (by omega) (by omega) (.string ⟨o.toArray⟩)).1).mono ?_
 rw [H4.o]
 rintro e w4 ⟨rfl,hA⟩
 have GR:Hid (I0 W w4):=hA.2.blk (jq2 HR.o (by omega) (.string ⟨o.toArray⟩)) (by omega)
 have GI:Hid (I4 w1.heap.size {flat0 with kind:=8,name:=n,word:=1,of_:=o} w4):=hA.2.blk (IB.set_of_ HI.o o) (by omega)
 have GA:=hdd ((HA.o.set (i:=3) (by omega) (by omega) (.string ⟨o.toArray⟩)).trans hA)
 have hs4:W.heap.size<w4.heap.size:=by have:=hA.2.size;simp only [World.size_setCell] at this;omega
 clear hA
 try clear kI_3 fI_3
 clear HA HR HI
 revert GR GI GA;intro HR HI HA
 go_wp2_with fail
 refine (jx0 E b s4 [110,111,118,97,116,101,115] _ HA.o.1).mono ?_
 rw [H5.o]
 rintro e w5 ⟨rfl,hA⟩
 have GR:Hid (I0 W w5):=hA.2.blk HR.o (by omega)
 have GI:Hid (I4 w1.heap.size {flat0 with kind:=8,name:=n,word:=1,of_:=o} w5):=hA.2.blk HI.o (by omega)
 have GA:=hdd (HA.o.trans hA)
 have hs5:W.heap.size<w5.heap.size:=by have:=hA.2.size;omega
 clear hA
 clear HA HR HI
 revert GR GI GA;intro HR HI HA
 have kI_5:w5.cell? ⟨w1.heap.size,5,none⟩=some (.int .i64 1):=jq0 HI.o 5
 have fI_5:w5.frozen? ⟨w1.heap.size,5,none⟩=false:=jq1 HI.o 5
 go_wp2_with fail
 refine (jx0 E b s5 [109,111,118,101,115] _ HA.o.1).mono ?_
 rw [H6.o]
 rintro e w6 ⟨rfl,hA⟩
 have GR:Hid (I0 W w6):=hA.2.blk HR.o (by omega)
 have GI:Hid (I4 w1.heap.size {flat0 with kind:=8,name:=n,word:=1,of_:=o} w6):=hA.2.blk HI.o (by omega)
 have GA:=hdd (HA.o.trans hA)
 have hs6:W.heap.size<w6.heap.size:=by have:=hA.2.size;omega
 clear hA
 try clear kI_5 fI_5
 clear HA HR HI
 revert GR GI GA;intro HR HI HA
 go_wp2_with fail
 refine (ratio_any E b s6 _ HA.o.1).mono ?_
 rw [H7.o]
 rintro e w7 ⟨rfl,hA⟩
 have GR:Hid (I0 W w7):=hA.2.blk HR.o (by omega)
 have GI:Hid (I4 w1.heap.size {flat0 with kind:=8,name:=n,word:=1,of_:=o} w7):=hA.2.blk HI.o (by omega)
 have GA:=hdd (HA.o.trans hA)
 have hs7:W.heap.size<w7.heap.size:=by have:=hA.2.size;omega
 clear hA
 clear HA HR HI
 revert GR GI GA;intro HR HI HA
 have kI_16:w7.cell? ⟨w1.heap.size,16,none⟩=some (.int .i64 0):=jq0 HI.o 16
 have fI_16:w7.frozen? ⟨w1.heap.size,16,none⟩=false:=jq1 HI.o 16
 have kI_17:w7.cell? ⟨w1.heap.size,17,none⟩=some (.int .i64 0):=jq0 HI.o 17
 have fI_17:w7.frozen? ⟨w1.heap.size,17,none⟩=false:=jq1 HI.o 17
 go_wp2_with fail
 refine (name_any E b s7 _ ((HA.o.set (i:=16) (by omega) (by omega) (.int .i64 (r.num:Int))).set (i:=17) (by omega) (by omega) (.int .i64 (r.den:Int))).1).mono ?_
 rw [H8.o]
 rintro e w8 ⟨rfl,hA⟩
 have GR:Hid (I0 W w8):=hA.2.blk (jq2 (jq2 HR.o (by omega) (.int .i64 (r.num:Int))) (by omega) (.int .i64 (r.den:Int))) (by omega)
 have GI:Hid (I4 w1.heap.size {flat0 with kind:=8,name:=n,word:=1,of_:=o,num:=r} w8):=hA.2.blk (IB.set_num HI.o r) (by omega)
 have GA:=hdd (((HA.o.set (i:=16) (by omega) (by omega) (.int .i64 (r.num:Int))).set (i:=17) (by omega) (by omega) (.int .i64 (r.den:Int))).trans hA)
 have hs8:W.heap.size<w8.heap.size:=by have:=hA.2.size;simp only [World.size_setCell] at this;omega
 clear hA
 try clear kI_16 fI_16 kI_17 fI_17
 clear HA HR HI
 revert GR GI GA;intro HR HI HA
 have kI_18:w8.cell? ⟨w1.heap.size,18,none⟩=some (.string ⟨#[]⟩):=jq0 HI.o 18
 have fI_18:w8.frozen? ⟨w1.heap.size,18,none⟩=false:=jq1 HI.o 18
 go_wp2_with fail
 refine (jx0 E b s8 [116,111] _ (HA.o.set (i:=18) (by omega) (by omega) (.string ⟨u.toArray⟩)).1).mono ?_
 rw [H9.o]
 rintro e w9 ⟨rfl,hA⟩
 have GR:Hid (I0 W w9):=hA.2.blk (jq2 HR.o (by omega) (.string ⟨u.toArray⟩)) (by omega)
 have GI:Hid (I4 w1.heap.size {flat0 with kind:=8,name:=n,word:=1,of_:=o,num:=r,unit:=u} w9):=hA.2.blk (IB.set_unit HI.o u) (by omega)
 have GA:=hdd ((HA.o.set (i:=18) (by omega) (by omega) (.string ⟨u.toArray⟩)).trans hA)
 have hs9:W.heap.size<w9.heap.size:=by have:=hA.2.size;simp only [World.size_setCell] at this;omega
 clear hA
 try clear kI_18 fI_18
 clear HA HR HI
 revert GR GI GA;intro HR HI HA
 go_wp2_with fail
 refine (name_any E b s9 _ HA.o.1).mono ?_
 rw [H10.o]
 rintro e w10 ⟨rfl,hA⟩
 have GR:Hid (I0 W w10):=hA.2.blk HR.o (by omega)
 have GI:Hid (I4 w1.heap.size {flat0 with kind:=8,name:=n,word:=1,of_:=o,num:=r,unit:=u} w10):=hA.2.blk HI.o (by omega)
 have GA:=hdd (HA.o.trans hA)
 have hs10:W.heap.size<w10.heap.size:=by have:=hA.2.size;omega
 clear hA
 clear HA HR HI
 revert GR GI GA;intro HR HI HA
 have kI_22:w10.cell? ⟨w1.heap.size,22,none⟩=some (.string ⟨#[]⟩):=jq0 HI.o 22
 have fI_22:w10.frozen? ⟨w1.heap.size,22,none⟩=false:=jq1 HI.o 22
 go_wp2_with fail
 refine (expect1 E b s10 [59] _ _ (by simp) (HA.o.set (i:=22) (by omega) (by omega) (.string ⟨t.toArray⟩)).1).mono ?_
 rw [H11.o]
 rintro e w11 ⟨rfl,hA⟩
 have GR:Hid (I0 W w11):=hA.2.blk (jq2 HR.o (by omega) (.string ⟨t.toArray⟩)) (by omega)
 have GI:Hid (I4 w1.heap.size {flat0 with kind:=8,name:=n,word:=1,of_:=o,num:=r,unit:=u,to_:=t} w11):=hA.2.blk (IB.set_to_ HI.o t) (by omega)
 have GA:=hdd ((HA.o.set (i:=22) (by omega) (by omega) (.string ⟨t.toArray⟩)).trans hA)
 have hs11:W.heap.size<w11.heap.size:=by have:=hA.2.size;simp only [World.size_setCell] at this;omega
 clear hA
 try clear kI_22 fI_22
 clear HA HR HI
 revert GR GI GA;intro HR HI HA
 obtain ⟨w99,hw99,hA99,hl99,ho99⟩:=item_end (g:=flat0) (a1:=nil) (a2:=nil) (a3:=nil) (a4:=nil) HR.o HA.o hbl {flat0 with kind:=8,name:=n,word:=1,of_:=o,num:=r,unit:=u,to_:=t} nil nil nil nil
 have HW99:=hdd hw99;clear hw99
 have HA99:=hdd hA99;clear hA99
 have HL99:=hdd hl99;clear hl99 ho99
 have HI9:Hid (I4 w1.heap.size {flat0 with kind:=8,name:=n,word:=1,of_:=o,num:=r,unit:=u,to_:=t} _):=HI.o
 have HR9:Hid (I0 W _):=HR.o
 go_wp2_with (first|(refine wpList_load_mid rfl 57 _ rfl w1.heap.size 0 rfl (icells {flat0 with kind:=8,name:=n,word:=1,of_:=o,num:=r,unit:=u,to_:=t} nil nil nil nil) _ HI9.o.range Tryd.underlying57 rfl (jx6 _ _ _ _ _) ?_)|(refine wpList_store_mid rfl 57 _ _ rfl W.heap.size 0 (icells {flat0 with kind:=8,name:=n,word:=1,of_:=o,num:=r,unit:=u,to_:=t} nil nil nil nil).toArray rfl rfl (HR9.o.there' _ _ _ _ _) (jq6 _ _ _ _ _) (ic1 ..) ?_;rw [HW99.o]))
 exact bodyPost_ret (v:= .agg (icells {flat0 with kind:=8,name:=n,word:=1,of_:=o,num:=r,unit:=u,to_:=t} nil nil nil nil).toArray) (jq8 Tryd.results68 rfl HL99.o) rfl ⟨⟨nil,nil,nil,rfl,FlatOK.nil _ _ _ rfl rfl rfl⟩,HA99.o⟩
theorem act_p10 (E:Env) (b:Nat) (s:St) (W:World) (h:PW E b s W) (n:Bytes) (s1:St) (u2:Unit) (s2:St) (o:Bytes) (s3:St) (s4:St) (s5:St) (s6:St) (r:Ratio) (s7:St) (u:Bytes) (s8:St) (s9:St) (u10:Unit) (s10:St) (h1:name s=(n,s1)) (h2:expect [[98,121]] s1=(u2,s2)) (h3:name s2=(o,s3)) (h4:acc [97,115,115,105,103,110,115] s3=(false,s4)) (h5:acc [110,111,118,97,116,101,115] s4=(false,s5)) (h6:acc [109,111,118,101,115] s5=(true,s6)) (h7:ratio s6=(r,s7)) (h8:name s7=(u,s8)) (h9:acc [116,111] s8=(false,s9)) (h10:expect [[59]] s9=(u10,s10)) (hn:(o== [110,97,116,117,114,101])=false):
  Calls Tryd.prog 68 #[.pointer (some ⟨b,0,none⟩)] W fun e w'=>(∃sc sd sn,e= .returned (.agg (icells {flat0 with kind:=8,name:=n,word:=1,of_:=o,num:=r,unit:=u} sc sd sn nil).toArray)∧FlatOK W.heap.size {flat0 with kind:=8,name:=n,word:=1,of_:=o,num:=r,unit:=u} sc sd sn w')∧After E b s10 W w':=by
 have hbl:=h.2.2.1
 have HP:=hdd h;clear h
 have H1:=hdd h1;clear h1
 have H2:=hdd h2;clear h2
 have H3:=hdd h3;clear h3
 have H4:=hdd h4;clear h4
 have H5:=hdd h5;clear h5
 have H6:=hdd h6;clear h6
 have H7:=hdd h7;clear h7
 have H8:=hdd h8;clear h8
 have H9:=hdd h9;clear h9
 have H10:=hdd h10;clear h10
 go_enter Tryd.func68,Tryd.ntmps68
 go_wp2_with fail
 refine (name_any E b s _ ((After.start HP.o).alloc _).1).mono ?_
 rw [H1.o]
 rintro e w1 ⟨rfl,hA⟩
 have GR:Hid (I0 W w1):=hA.2.blk (jq5 (by simp)) (by omega)
 have GA:=hdd (((After.start HP.o).alloc _).trans hA)
 have hs1:W.heap.size<w1.heap.size:=by have:=hA.2.size;simp only [World.size_alloc] at this;omega
 clear hA
 revert GR GA;intro HR HA
 go_wp2_with (first|(refine wpList_build rfl 57 _ rfl #[(0,.int .i64 8),(1,.string ⟨n.toArray⟩),(5,.int .i64 1)] ?_ _ (jv6 n _) ?_;(simp [Act.eval]))|(refine jq4 rfl 57 _ _ rfl rfl (icells {flat0 with kind:=8,name:=n,word:=1} nil nil nil nil).toArray rfl (jq6 _ _ _ _ _) (ic1 ..) (by rfl) ?_))
 refine (expect1 E b s1 [98,121] _ _ (by simp) (HA.o.alloc _).1).mono ?_
 rw [H2.o]
 rintro e w2 ⟨rfl,hA⟩
 have GR:Hid (I0 W w2):=hA.2.blk (jq9 HR.o _) (by omega)
 have GI:Hid (I4 w1.heap.size {flat0 with kind:=8,name:=n,word:=1} w2):=hA.2.blk (jq5 (by simp)) (by omega)
 have GA:=hdd ((HA.o.alloc _).trans hA)
 have hs2:W.heap.size<w2.heap.size:=by have:=hA.2.size;simp only [World.size_alloc] at this;omega
 clear hA
 clear HA HR
 revert GR GI GA;intro HR HI HA
 go_wp2_with fail
 refine (name_any E b s2 _ HA.o.1).mono ?_
 rw [H3.o]
 rintro e w3 ⟨rfl,hA⟩
 have GR:Hid (I0 W w3):=hA.2.blk HR.o (by omega)
 have GI:Hid (I4 w1.heap.size {flat0 with kind:=8,name:=n,word:=1} w3):=hA.2.blk HI.o (by omega)
 have GA:=hdd (HA.o.trans hA)
 have hs3:W.heap.size<w3.heap.size:=by have:=hA.2.size;omega
 clear hA
 clear HA HR HI
 revert GR GI GA;intro HR HI HA
 have kI_3:w3.cell? ⟨w1.heap.size,3,none⟩=some (.string ⟨#[]⟩):=jq0 HI.o 3
 have fI_3:w3.frozen? ⟨w1.heap.size,3,none⟩=false:=jq1 HI.o 3
 go_wp2_with fail
 refine (jx0 E b s3 [97,115,115,105,103,110,115] _ (HA.o.set (i:=3) (by omega) (by omega) (.string ⟨o.toArray⟩)).1).mono ?_
 rw [H4.o]
 rintro e w4 ⟨rfl,hA⟩
 have GR:Hid (I0 W w4):=hA.2.blk (jq2 HR.o (by omega) (.string ⟨o.toArray⟩)) (by omega)
 have GI:Hid (I4 w1.heap.size {flat0 with kind:=8,name:=n,word:=1,of_:=o} w4):=hA.2.blk (IB.set_of_ HI.o o) (by omega)
 have GA:=hdd ((HA.o.set (i:=3) (by omega) (by omega) (.string ⟨o.toArray⟩)).trans hA)
 have hs4:W.heap.size<w4.heap.size:=by have:=hA.2.size;simp only [World.size_setCell] at this;omega
 clear hA
 try clear kI_3 fI_3
 clear HA HR HI
 revert GR GI GA;intro HR HI HA
 go_wp2_with fail
 refine (jx0 E b s4 [110,111,118,97,116,101,115] _ HA.o.1).mono ?_
 rw [H5.o]
 rintro e w5 ⟨rfl,hA⟩
 have GR:Hid (I0 W w5):=hA.2.blk HR.o (by omega)
 have GI:Hid (I4 w1.heap.size {flat0 with kind:=8,name:=n,word:=1,of_:=o} w5):=hA.2.blk HI.o (by omega)
 have GA:=hdd (HA.o.trans hA)
 have hs5:W.heap.size<w5.heap.size:=by have:=hA.2.size;omega
 clear hA
 clear HA HR HI
 revert GR GI GA;intro HR HI HA
 have kI_5:w5.cell? ⟨w1.heap.size,5,none⟩=some (.int .i64 1):=jq0 HI.o 5
 have fI_5:w5.frozen? ⟨w1.heap.size,5,none⟩=false:=jq1 HI.o 5
 go_wp2_with fail
 refine (jx0 E b s5 [109,111,118,101,115] _ HA.o.1).mono ?_
 rw [H6.o]
 rintro e w6 ⟨rfl,hA⟩
 have GR:Hid (I0 W w6):=hA.2.blk HR.o (by omega)
 have GI:Hid (I4 w1.heap.size {flat0 with kind:=8,name:=n,word:=1,of_:=o} w6):=hA.2.blk HI.o (by omega)
 have GA:=hdd (HA.o.trans hA)
 have hs6:W.heap.size<w6.heap.size:=by have:=hA.2.size;omega
 clear hA
 try clear kI_5 fI_5
 clear HA HR HI
 revert GR GI GA;intro HR HI HA
 go_wp2_with fail
 refine (ratio_any E b s6 _ HA.o.1).mono ?_
 rw [H7.o]
 rintro e w7 ⟨rfl,hA⟩
 have GR:Hid (I0 W w7):=hA.2.blk HR.o (by omega)
 have GI:Hid (I4 w1.heap.size {flat0 with kind:=8,name:=n,word:=1,of_:=o} w7):=hA.2.blk HI.o (by omega)
 have GA:=hdd (HA.o.trans hA)
 have hs7:W.heap.size<w7.heap.size:=by have:=hA.2.size;omega
 clear hA
 clear HA HR HI
 revert GR GI GA;intro HR HI HA
 have kI_16:w7.cell? ⟨w1.heap.size,16,none⟩=some (.int .i64 0):=jq0 HI.o 16
 have fI_16:w7.frozen? ⟨w1.heap.size,16,none⟩=false:=jq1 HI.o 16
 have kI_17:w7.cell? ⟨w1.heap.size,17,none⟩=some (.int .i64 0):=jq0 HI.o 17
 have fI_17:w7.frozen? ⟨w1.heap.size,17,none⟩=false:=jq1 HI.o 17
 go_wp2_with fail
 refine (name_any E b s7 _ ((HA.o.set (i:=16) (by omega) (by omega) (.int .i64 (r.num:Int))).set (i:=17) (by omega) (by omega) (.int .i64 (r.den:Int))).1).mono ?_
 rw [H8.o]
 rintro e w8 ⟨rfl,hA⟩
 have GR:Hid (I0 W w8):=hA.2.blk (jq2 (jq2 HR.o (by omega) (.int .i64 (r.num:Int))) (by omega) (.int .i64 (r.den:Int))) (by omega)
 have GI:Hid (I4 w1.heap.size {flat0 with kind:=8,name:=n,word:=1,of_:=o,num:=r} w8):=hA.2.blk (IB.set_num HI.o r) (by omega)
 have GA:=hdd (((HA.o.set (i:=16) (by omega) (by omega) (.int .i64 (r.num:Int))).set (i:=17) (by omega) (by omega) (.int .i64 (r.den:Int))).trans hA)
 have hs8:W.heap.size<w8.heap.size:=by have:=hA.2.size;simp only [World.size_setCell] at this;omega
 clear hA
 try clear kI_16 fI_16 kI_17 fI_17
 clear HA HR HI
 revert GR GI GA;intro HR HI HA
 have kI_18:w8.cell? ⟨w1.heap.size,18,none⟩=some (.string ⟨#[]⟩):=jq0 HI.o 18
 have fI_18:w8.frozen? ⟨w1.heap.size,18,none⟩=false:=jq1 HI.o 18
 go_wp2_with fail
 refine (jx0 E b s8 [116,111] _ (HA.o.set (i:=18) (by omega) (by omega) (.string ⟨u.toArray⟩)).1).mono ?_
 rw [H9.o]
 rintro e w9 ⟨rfl,hA⟩
 have GR:Hid (I0 W w9):=hA.2.blk (jq2 HR.o (by omega) (.string ⟨u.toArray⟩)) (by omega)
 have GI:Hid (I4 w1.heap.size {flat0 with kind:=8,name:=n,word:=1,of_:=o,num:=r,unit:=u} w9):=hA.2.blk (IB.set_unit HI.o u) (by omega)
 have GA:=hdd ((HA.o.set (i:=18) (by omega) (by omega) (.string ⟨u.toArray⟩)).trans hA)
 have hs9:W.heap.size<w9.heap.size:=by have:=hA.2.size;simp only [World.size_setCell] at this;omega
 clear hA
 try clear kI_18 fI_18
 clear HA HR HI
 revert GR GI GA;intro HR HI HA
 go_wp2_with fail
 refine (expect1 E b s9 [59] _ _ (by simp) HA.o.1).mono ?_
 rw [H10.o]
 rintro e w10 ⟨rfl,hA⟩
 have GR:Hid (I0 W w10):=hA.2.blk HR.o (by omega)
 have GI:Hid (I4 w1.heap.size {flat0 with kind:=8,name:=n,word:=1,of_:=o,num:=r,unit:=u} w10):=hA.2.blk HI.o (by omega)
 have GA:=hdd (HA.o.trans hA)
 have hs10:W.heap.size<w10.heap.size:=by have:=hA.2.size;omega
 clear hA
 clear HA HR HI
 revert GR GI GA;intro HR HI HA
 obtain ⟨w99,hw99,hA99,hl99,ho99⟩:=item_end (g:=flat0) (a1:=nil) (a2:=nil) (a3:=nil) (a4:=nil) HR.o HA.o hbl {flat0 with kind:=8,name:=n,word:=1,of_:=o,num:=r,unit:=u} nil nil nil nil
 have HW99:=hdd hw99;clear hw99
 have HA99:=hdd hA99;clear hA99
 have HL99:=hdd hl99;clear hl99 ho99
 have HI9:Hid (I4 w1.heap.size {flat0 with kind:=8,name:=n,word:=1,of_:=o,num:=r,unit:=u} _):=HI.o
 have HR9:Hid (I0 W _):=HR.o
 go_wp2_with (first|(refine wpList_load_mid rfl 57 _ rfl w1.heap.size 0 rfl (icells {flat0 with kind:=8,name:=n,word:=1,of_:=o,num:=r,unit:=u} nil nil nil nil) _ HI9.o.range Tryd.underlying57 rfl (jx6 _ _ _ _ _) ?_)|(refine wpList_store_mid rfl 57 _ _ rfl W.heap.size 0 (icells {flat0 with kind:=8,name:=n,word:=1,of_:=o,num:=r,unit:=u} nil nil nil nil).toArray rfl rfl (HR9.o.there' _ _ _ _ _) (jq6 _ _ _ _ _) (ic1 ..) ?_;rw [HW99.o]))
 exact bodyPost_ret (v:= .agg (icells {flat0 with kind:=8,name:=n,word:=1,of_:=o,num:=r,unit:=u} nil nil nil nil).toArray) (jq8 Tryd.results68 rfl HL99.o) rfl ⟨⟨nil,nil,nil,rfl,FlatOK.nil _ _ _ rfl rfl rfl⟩,HA99.o⟩
theorem act_p11 (E:Env) (b:Nat) (s:St) (W:World) (h:PW E b s W) (n:Bytes) (s1:St) (u2:Unit) (s2:St) (o:Bytes) (s3:St) (s4:St) (s5:St) (s6:St) (s7:St) (t:Bytes) (s8:St) (u9:Unit) (s9:St) (h1:name s=(n,s1)) (h2:expect [[98,121]] s1=(u2,s2)) (h3:name s2=(o,s3)) (h4:acc [97,115,115,105,103,110,115] s3=(false,s4)) (h5:acc [110,111,118,97,116,101,115] s4=(false,s5)) (h6:acc [109,111,118,101,115] s5=(false,s6)) (h7:acc [116,111] s6=(true,s7)) (h8:name s7=(t,s8)) (h9:expect [[59]] s8=(u9,s9)) (hn:(o== [110,97,116,117,114,101])=false):
  Calls Tryd.prog 68 #[.pointer (some ⟨b,0,none⟩)] W fun e w'=>(∃sc sd sn,e= .returned (.agg (icells {flat0 with kind:=8,name:=n,word:=1,of_:=o,to_:=t} sc sd sn nil).toArray)∧FlatOK W.heap.size {flat0 with kind:=8,name:=n,word:=1,of_:=o,to_:=t} sc sd sn w')∧After E b s9 W w':=by
 have hbl:=h.2.2.1
 have HP:=hdd h;clear h
 have H1:=hdd h1;clear h1
 have H2:=hdd h2;clear h2
 have H3:=hdd h3;clear h3
 have H4:=hdd h4;clear h4
 have H5:=hdd h5;clear h5
 have H6:=hdd h6;clear h6
 have H7:=hdd h7;clear h7
 have H8:=hdd h8;clear h8
 have H9:=hdd h9;clear h9
 go_enter Tryd.func68,Tryd.ntmps68
 go_wp2_with fail
 refine (name_any E b s _ ((After.start HP.o).alloc _).1).mono ?_
 rw [H1.o]
 rintro e w1 ⟨rfl,hA⟩
 have GR:Hid (I0 W w1):=hA.2.blk (jq5 (by simp)) (by omega)
 have GA:=hdd (((After.start HP.o).alloc _).trans hA)
 have hs1:W.heap.size<w1.heap.size:=by have:=hA.2.size;simp only [World.size_alloc] at this;omega
 clear hA
 revert GR GA;intro HR HA
 go_wp2_with (first|(refine wpList_build rfl 57 _ rfl #[(0,.int .i64 8),(1,.string ⟨n.toArray⟩),(5,.int .i64 1)] ?_ _ (jv6 n _) ?_;(simp [Act.eval]))|(refine jq4 rfl 57 _ _ rfl rfl (icells {flat0 with kind:=8,name:=n,word:=1} nil nil nil nil).toArray rfl (jq6 _ _ _ _ _) (ic1 ..) (by rfl) ?_))
 refine (expect1 E b s1 [98,121] _ _ (by simp) (HA.o.alloc _).1).mono ?_
 rw [H2.o]
 rintro e w2 ⟨rfl,hA⟩
 have GR:Hid (I0 W w2):=hA.2.blk (jq9 HR.o _) (by omega)
 have GI:Hid (I4 w1.heap.size {flat0 with kind:=8,name:=n,word:=1} w2):=hA.2.blk (jq5 (by simp)) (by omega)
 have GA:=hdd ((HA.o.alloc _).trans hA)
 have hs2:W.heap.size<w2.heap.size:=by have:=hA.2.size;simp only [World.size_alloc] at this;omega
 clear hA
 clear HA HR
 revert GR GI GA;intro HR HI HA
 go_wp2_with fail
 refine (name_any E b s2 _ HA.o.1).mono ?_
 rw [H3.o]
 rintro e w3 ⟨rfl,hA⟩
 have GR:Hid (I0 W w3):=hA.2.blk HR.o (by omega)
 have GI:Hid (I4 w1.heap.size {flat0 with kind:=8,name:=n,word:=1} w3):=hA.2.blk HI.o (by omega)
 have GA:=hdd (HA.o.trans hA)
 have hs3:W.heap.size<w3.heap.size:=by have:=hA.2.size;omega
 clear hA
 clear HA HR HI
 revert GR GI GA;intro HR HI HA
 have kI_3:w3.cell? ⟨w1.heap.size,3,none⟩=some (.string ⟨#[]⟩):=jq0 HI.o 3
 have fI_3:w3.frozen? ⟨w1.heap.size,3,none⟩=false:=jq1 HI.o 3
 go_wp2_with fail
 refine (jx0 E b s3 [97,115,115,105,103,110,115] _ (HA.o.set (i:=3) (by omega) (by omega) (.string ⟨o.toArray⟩)).1).mono ?_
 rw [H4.o]
 rintro e w4 ⟨rfl,hA⟩
 have GR:Hid (I0 W w4):=hA.2.blk (jq2 HR.o (by omega) (.string ⟨o.toArray⟩)) (by omega)
 have GI:Hid (I4 w1.heap.size {flat0 with kind:=8,name:=n,word:=1,of_:=o} w4):=hA.2.blk (IB.set_of_ HI.o o) (by omega)
 have GA:=hdd ((HA.o.set (i:=3) (by omega) (by omega) (.string ⟨o.toArray⟩)).trans hA)
 have hs4:W.heap.size<w4.heap.size:=by have:=hA.2.size;simp only [World.size_setCell] at this;omega
 clear hA
 try clear kI_3 fI_3
 clear HA HR HI
 revert GR GI GA;intro HR HI HA
 go_wp2_with fail
 refine (jx0 E b s4 [110,111,118,97,116,101,115] _ HA.o.1).mono ?_
 rw [H5.o]
 rintro e w5 ⟨rfl,hA⟩
 have GR:Hid (I0 W w5):=hA.2.blk HR.o (by omega)
 have GI:Hid (I4 w1.heap.size {flat0 with kind:=8,name:=n,word:=1,of_:=o} w5):=hA.2.blk HI.o (by omega)
 have GA:=hdd (HA.o.trans hA)
 have hs5:W.heap.size<w5.heap.size:=by have:=hA.2.size;omega
 clear hA
 clear HA HR HI
 revert GR GI GA;intro HR HI HA
 have kI_5:w5.cell? ⟨w1.heap.size,5,none⟩=some (.int .i64 1):=jq0 HI.o 5
 have fI_5:w5.frozen? ⟨w1.heap.size,5,none⟩=false:=jq1 HI.o 5
 go_wp2_with fail
 refine (jx0 E b s5 [109,111,118,101,115] _ HA.o.1).mono ?_
 rw [H6.o]
 rintro e w6 ⟨rfl,hA⟩
 have GR:Hid (I0 W w6):=hA.2.blk HR.o (by omega)
 have GI:Hid (I4 w1.heap.size {flat0 with kind:=8,name:=n,word:=1,of_:=o} w6):=hA.2.blk HI.o (by omega)
 have GA:=hdd (HA.o.trans hA)
 have hs6:W.heap.size<w6.heap.size:=by have:=hA.2.size;omega
 clear hA
 try clear kI_5 fI_5
 clear HA HR HI
 revert GR GI GA;intro HR HI HA
 go_wp2_with fail
 refine (jx0 E b s6 [116,111] _ HA.o.1).mono ?_
 rw [H7.o]
 rintro e w7 ⟨rfl,hA⟩
 have GR:Hid (I0 W w7):=hA.2.blk HR.o (by omega)
 have GI:Hid (I4 w1.heap.size {flat0 with kind:=8,name:=n,word:=1,of_:=o} w7):=hA.2.blk HI.o (by omega)
 have GA:=hdd (HA.o.trans hA)
 have hs7:W.heap.size<w7.heap.size:=by have:=hA.2.size;omega
 clear hA
 clear HA HR HI
 revert GR GI GA;intro HR HI HA
 go_wp2_with fail
 refine (name_any E b s7 _ HA.o.1).mono ?_
 rw [H8.o]
 rintro e w8 ⟨rfl,hA⟩
 have GR:Hid (I0 W w8):=hA.2.blk HR.o (by omega)
 have GI:Hid (I4 w1.heap.size {flat0 with kind:=8,name:=n,word:=1,of_:=o} w8):=hA.2.blk HI.o (by omega)
 have GA:=hdd (HA.o.trans hA)
 have hs8:W.heap.size<w8.heap.size:=by have:=hA.2.size;omega
 clear hA
 clear HA HR HI
 revert GR GI GA;intro HR HI HA
 have kI_22:w8.cell? ⟨w1.heap.size,22,none⟩=some (.string ⟨#[]⟩):=jq0 HI.o 22
 have fI_22:w8.frozen? ⟨w1.heap.size,22,none⟩=false:=jq1 HI.o 22
 go_wp2_with fail
 refine (expect1 E b s8 [59] _ _ (by simp) (HA.o.set (i:=22) (by omega) (by omega) (.string ⟨t.toArray⟩)).1).mono ?_
 rw [H9.o]
 rintro e w9 ⟨rfl,hA⟩
 have GR:Hid (I0 W w9):=hA.2.blk (jq2 HR.o (by omega) (.string ⟨t.toArray⟩)) (by omega)
 have GI:Hid (I4 w1.heap.size {flat0 with kind:=8,name:=n,word:=1,of_:=o,to_:=t} w9):=hA.2.blk (IB.set_to_ HI.o t) (by omega)
 have GA:=hdd ((HA.o.set (i:=22) (by omega) (by omega) (.string ⟨t.toArray⟩)).trans hA)
 have hs9:W.heap.size<w9.heap.size:=by have:=hA.2.size;simp only [World.size_setCell] at this;omega
 clear hA
 try clear kI_22 fI_22
 clear HA HR HI
 revert GR GI GA;intro HR HI HA
 obtain ⟨w99,hw99,hA99,hl99,ho99⟩:=item_end (g:=flat0) (a1:=nil) (a2:=nil) (a3:=nil) (a4:=nil) HR.o HA.o hbl {flat0 with kind:=8,name:=n,word:=1,of_:=o,to_:=t} nil nil nil nil
 have HW99:=hdd hw99;clear hw99
 have HA99:=hdd hA99;clear hA99
 have HL99:=hdd hl99;clear hl99 ho99
 have HI9:Hid (I4 w1.heap.size {flat0 with kind:=8,name:=n,word:=1,of_:=o,to_:=t} _):=HI.o
 have HR9:Hid (I0 W _):=HR.o
 go_wp2_with (first|(refine wpList_load_mid rfl 57 _ rfl w1.heap.size 0 rfl (icells {flat0 with kind:=8,name:=n,word:=1,of_:=o,to_:=t} nil nil nil nil) _ HI9.o.range Tryd.underlying57 rfl (jx6 _ _ _ _ _) ?_)|(refine wpList_store_mid rfl 57 _ _ rfl W.heap.size 0 (icells {flat0 with kind:=8,name:=n,word:=1,of_:=o,to_:=t} nil nil nil nil).toArray rfl rfl (HR9.o.there' _ _ _ _ _) (jq6 _ _ _ _ _) (ic1 ..) ?_;rw [HW99.o]))
 exact bodyPost_ret (v:= .agg (icells {flat0 with kind:=8,name:=n,word:=1,of_:=o,to_:=t} nil nil nil nil).toArray) (jq8 Tryd.results68 rfl HL99.o) rfl ⟨⟨nil,nil,nil,rfl,FlatOK.nil _ _ _ rfl rfl rfl⟩,HA99.o⟩
theorem act_p12 (E:Env) (b:Nat) (s:St) (W:World) (h:PW E b s W) (n:Bytes) (s1:St) (u2:Unit) (s2:St) (o:Bytes) (s3:St) (s4:St) (s5:St) (s6:St) (s7:St) (u8:Unit) (s8:St) (h1:name s=(n,s1)) (h2:expect [[98,121]] s1=(u2,s2)) (h3:name s2=(o,s3)) (h4:acc [97,115,115,105,103,110,115] s3=(false,s4)) (h5:acc [110,111,118,97,116,101,115] s4=(false,s5)) (h6:acc [109,111,118,101,115] s5=(false,s6)) (h7:acc [116,111] s6=(false,s7)) (h8:expect [[59]] s7=(u8,s8)) (hn:(o== [110,97,116,117,114,101])=false):
  Calls Tryd.prog 68 #[.pointer (some ⟨b,0,none⟩)] W fun e w'=>(∃sc sd sn,e= .returned (.agg (icells {flat0 with kind:=8,name:=n,word:=1,of_:=o} sc sd sn nil).toArray)∧FlatOK W.heap.size {flat0 with kind:=8,name:=n,word:=1,of_:=o} sc sd sn w')∧After E b s8 W w':=by
 have hbl:=h.2.2.1
 have HP:=hdd h;clear h
 have H1:=hdd h1;clear h1
 have H2:=hdd h2;clear h2
 have H3:=hdd h3;clear h3
 have H4:=hdd h4;clear h4
 have H5:=hdd h5;clear h5
 have H6:=hdd h6;clear h6
 have H7:=hdd h7;clear h7
 have H8:=hdd h8;clear h8
 go_enter Tryd.func68,Tryd.ntmps68
 go_wp2_with fail
 refine (name_any E b s _ ((After.start HP.o).alloc _).1).mono ?_
 rw [H1.o]
 rintro e w1 ⟨rfl,hA⟩
 have GR:Hid (I0 W w1):=hA.2.blk (jq5 (by simp)) (by omega)
 have GA:=hdd (((After.start HP.o).alloc _).trans hA)
 have hs1:W.heap.size<w1.heap.size:=by have:=hA.2.size;simp only [World.size_alloc] at this;omega
 clear hA
 revert GR GA;intro HR HA
 go_wp2_with (first|(refine wpList_build rfl 57 _ rfl #[(0,.int .i64 8),(1,.string ⟨n.toArray⟩),(5,.int .i64 1)] ?_ _ (jv6 n _) ?_;(simp [Act.eval]))|(refine jq4 rfl 57 _ _ rfl rfl (icells {flat0 with kind:=8,name:=n,word:=1} nil nil nil nil).toArray rfl (jq6 _ _ _ _ _) (ic1 ..) (by rfl) ?_))
 refine (expect1 E b s1 [98,121] _ _ (by simp) (HA.o.alloc _).1).mono ?_
 rw [H2.o]
 rintro e w2 ⟨rfl,hA⟩
 have GR:Hid (I0 W w2):=hA.2.blk (jq9 HR.o _) (by omega)
 have GI:Hid (I4 w1.heap.size {flat0 with kind:=8,name:=n,word:=1} w2):=hA.2.blk (jq5 (by simp)) (by omega)
 have GA:=hdd ((HA.o.alloc _).trans hA)
 have hs2:W.heap.size<w2.heap.size:=by have:=hA.2.size;simp only [World.size_alloc] at this;omega
 clear hA
 clear HA HR
 revert GR GI GA;intro HR HI HA
 go_wp2_with fail
 refine (name_any E b s2 _ HA.o.1).mono ?_
 rw [H3.o]
 rintro e w3 ⟨rfl,hA⟩
 have GR:Hid (I0 W w3):=hA.2.blk HR.o (by omega)
 have GI:Hid (I4 w1.heap.size {flat0 with kind:=8,name:=n,word:=1} w3):=hA.2.blk HI.o (by omega)
 have GA:=hdd (HA.o.trans hA)
 have hs3:W.heap.size<w3.heap.size:=by have:=hA.2.size;omega
 clear hA
 clear HA HR HI
 revert GR GI GA;intro HR HI HA
 have kI_3:w3.cell? ⟨w1.heap.size,3,none⟩=some (.string ⟨#[]⟩):=jq0 HI.o 3
 have fI_3:w3.frozen? ⟨w1.heap.size,3,none⟩=false:=jq1 HI.o 3
 go_wp2_with fail
 refine (jx0 E b s3 [97,115,115,105,103,110,115] _ (HA.o.set (i:=3) (by omega) (by omega) (.string ⟨o.toArray⟩)).1).mono ?_
 rw [H4.o]
 rintro e w4 ⟨rfl,hA⟩
 have GR:Hid (I0 W w4):=hA.2.blk (jq2 HR.o (by omega) (.string ⟨o.toArray⟩)) (by omega)
 have GI:Hid (I4 w1.heap.size {flat0 with kind:=8,name:=n,word:=1,of_:=o} w4):=hA.2.blk (IB.set_of_ HI.o o) (by omega)
 have GA:=hdd ((HA.o.set (i:=3) (by omega) (by omega) (.string ⟨o.toArray⟩)).trans hA)
 have hs4:W.heap.size<w4.heap.size:=by have:=hA.2.size;simp only [World.size_setCell] at this;omega
 clear hA
 try clear kI_3 fI_3
 clear HA HR HI
 revert GR GI GA;intro HR HI HA
 go_wp2_with fail
 refine (jx0 E b s4 [110,111,118,97,116,101,115] _ HA.o.1).mono ?_
 rw [H5.o]
 rintro e w5 ⟨rfl,hA⟩
 have GR:Hid (I0 W w5):=hA.2.blk HR.o (by omega)
 have GI:Hid (I4 w1.heap.size {flat0 with kind:=8,name:=n,word:=1,of_:=o} w5):=hA.2.blk HI.o (by omega)
 have GA:=hdd (HA.o.trans hA)
 have hs5:W.heap.size<w5.heap.size:=by have:=hA.2.size;omega
 clear hA
 clear HA HR HI
 revert GR GI GA;intro HR HI HA
 have kI_5:w5.cell? ⟨w1.heap.size,5,none⟩=some (.int .i64 1):=jq0 HI.o 5
 have fI_5:w5.frozen? ⟨w1.heap.size,5,none⟩=false:=jq1 HI.o 5
 go_wp2_with fail
 refine (jx0 E b s5 [109,111,118,101,115] _ HA.o.1).mono ?_
 rw [H6.o]
 rintro e w6 ⟨rfl,hA⟩
 have GR:Hid (I0 W w6):=hA.2.blk HR.o (by omega)
 have GI:Hid (I4 w1.heap.size {flat0 with kind:=8,name:=n,word:=1,of_:=o} w6):=hA.2.blk HI.o (by omega)
 have GA:=hdd (HA.o.trans hA)
 have hs6:W.heap.size<w6.heap.size:=by have:=hA.2.size;omega
 clear hA
 try clear kI_5 fI_5
 clear HA HR HI
 revert GR GI GA;intro HR HI HA
 go_wp2_with fail
 refine (jx0 E b s6 [116,111] _ HA.o.1).mono ?_
 rw [H7.o]
 rintro e w7 ⟨rfl,hA⟩
 have GR:Hid (I0 W w7):=hA.2.blk HR.o (by omega)
 have GI:Hid (I4 w1.heap.size {flat0 with kind:=8,name:=n,word:=1,of_:=o} w7):=hA.2.blk HI.o (by omega)
 have GA:=hdd (HA.o.trans hA)
 have hs7:W.heap.size<w7.heap.size:=by have:=hA.2.size;omega
 clear hA
 clear HA HR HI
 revert GR GI GA;intro HR HI HA
 go_wp2_with fail
 refine (expect1 E b s7 [59] _ _ (by simp) HA.o.1).mono ?_
 rw [H8.o]
 rintro e w8 ⟨rfl,hA⟩
 have GR:Hid (I0 W w8):=hA.2.blk HR.o (by omega)
 have GI:Hid (I4 w1.heap.size {flat0 with kind:=8,name:=n,word:=1,of_:=o} w8):=hA.2.blk HI.o (by omega)
 have GA:=hdd (HA.o.trans hA)
 have hs8:W.heap.size<w8.heap.size:=by have:=hA.2.size;omega
 clear hA
 clear HA HR HI
 revert GR GI GA;intro HR HI HA
 obtain ⟨w99,hw99,hA99,hl99,ho99⟩:=item_end (g:=flat0) (a1:=nil) (a2:=nil) (a3:=nil) (a4:=nil) HR.o HA.o hbl {flat0 with kind:=8,name:=n,word:=1,of_:=o} nil nil nil nil
 have HW99:=hdd hw99;clear hw99
 have HA99:=hdd hA99;clear hA99
 have HL99:=hdd hl99;clear hl99 ho99
 have HI9:Hid (I4 w1.heap.size {flat0 with kind:=8,name:=n,word:=1,of_:=o} _):=HI.o
 have HR9:Hid (I0 W _):=HR.o
 go_wp2_with (first|(refine wpList_load_mid rfl 57 _ rfl w1.heap.size 0 rfl (icells {flat0 with kind:=8,name:=n,word:=1,of_:=o} nil nil nil nil) _ HI9.o.range Tryd.underlying57 rfl (jx6 _ _ _ _ _) ?_)|(refine wpList_store_mid rfl 57 _ _ rfl W.heap.size 0 (icells {flat0 with kind:=8,name:=n,word:=1,of_:=o} nil nil nil nil).toArray rfl rfl (HR9.o.there' _ _ _ _ _) (jq6 _ _ _ _ _) (ic1 ..) ?_;rw [HW99.o]))
 exact bodyPost_ret (v:= .agg (icells {flat0 with kind:=8,name:=n,word:=1,of_:=o} nil nil nil nil).toArray) (jq8 Tryd.results68 rfl HL99.o) rfl ⟨⟨nil,nil,nil,rfl,FlatOK.nil _ _ _ rfl rfl rfl⟩,HA99.o⟩
theorem act_any (E:Env) (b:Nat) (s:St) (W:World) (h:PW E b s W):
  Calls Tryd.prog 68 #[.pointer (some ⟨b,0,none⟩)] W fun e w'=>(∃sc sd sn,e= .returned (.agg (icells (act s).1 sc sd sn nil).toArray)∧FlatOK W.heap.size (act s).1 sc sd sn w')∧After E b (act s).2 W w':=by
 obtain ⟨n,s1,h1⟩: ∃x s',name s=(x,s'):=⟨_,_,rfl⟩
 obtain ⟨u2,s2,h2⟩: ∃x s',expect [[98,121]] s1=(x,s'):=⟨_,_,rfl⟩
 obtain ⟨o,s3,h3⟩: ∃x s',name s2=(x,s'):=⟨_,_,rfl⟩
 obtain ⟨b4,s4,h4⟩: ∃x s',acc [97,115,115,105,103,110,115] s3=(x,s'):=⟨_,_,rfl⟩
 cases b4 with
 |true=>
  obtain ⟨g,s5,h5⟩: ∃x s',name s4=(x,s'):=⟨_,_,rfl⟩
  obtain ⟨u6,s6,h6⟩: ∃x s',expect [[116,111]] s5=(x,s'):=⟨_,_,rfl⟩
  obtain ⟨t,s7,h7⟩: ∃x s',name s6=(x,s'):=⟨_,_,rfl⟩
  obtain ⟨u8,s8,h8⟩: ∃x s',expect [[59]] s7=(x,s'):=⟨_,_,rfl⟩
  cases hq:(o== [110,97,116,117,114,101]) with
  |true=>
   have hn:o= [110,97,116,117,114,101]:=by simpa using hq
   have hp:act s=({flat0 with kind:=8,name:=n,word:=2,of_:= [],give:=g,to_:=t},s8):=(jq3 h1).trans ((jx1 h2).trans ((jq3 h3).trans ((jz1 h4).trans ((jq3 h5).trans ((jx1 h6).trans ((jq3 h7).trans ((jx1 h8).trans (by rw [nat_yes hn];rfl))))))))
   rw [hp]
   exact act_p1 E b s W h n s1 u2 s2 o s3 s4 g s5 u6 s6 t s7 u8 s8 h1 h2 h3 h4 h5 h6 h7 h8 hn
  |false=>
   have hn:=hq
   have hp:act s=({flat0 with kind:=8,name:=n,word:=2,of_:=o,give:=g,to_:=t},s8):=(jq3 h1).trans ((jx1 h2).trans ((jq3 h3).trans ((jz1 h4).trans ((jq3 h5).trans ((jx1 h6).trans ((jq3 h7).trans ((jx1 h8).trans (by rw [nat_no hn];rfl))))))))
   rw [hp]
   exact act_p7 E b s W h n s1 u2 s2 o s3 s4 g s5 u6 s6 t s7 u8 s8 h1 h2 h3 h4 h5 h6 h7 h8 hn
 |false=>
  obtain ⟨b5,s5,h5⟩: ∃x s',acc [110,111,118,97,116,101,115] s4=(x,s'):=⟨_,_,rfl⟩
  cases b5 with
  |true=>
   obtain ⟨g,s6,h6⟩: ∃x s',name s5=(x,s'):=⟨_,_,rfl⟩
   obtain ⟨u7,s7,h7⟩: ∃x s',expect [[116,111]] s6=(x,s'):=⟨_,_,rfl⟩
   obtain ⟨t,s8,h8⟩: ∃x s',name s7=(x,s'):=⟨_,_,rfl⟩
   obtain ⟨u9,s9,h9⟩: ∃x s',expect [[59]] s8=(x,s'):=⟨_,_,rfl⟩
   cases hq:(o== [110,97,116,117,114,101]) with
   |true=>
    have hn:o= [110,97,116,117,114,101]:=by simpa using hq
    have hp:act s=({flat0 with kind:=8,name:=n,word:=3,of_:= [],give:=g,to_:=t},s9):=(jq3 h1).trans ((jx1 h2).trans ((jq3 h3).trans ((jx9 h4).trans ((jz1 h5).trans ((jq3 h6).trans ((jx1 h7).trans ((jq3 h8).trans ((jx1 h9).trans (by rw [nat_yes hn];rfl)))))))))
    rw [hp]
    exact act_p2 E b s W h n s1 u2 s2 o s3 s4 s5 g s6 u7 s7 t s8 u9 s9 h1 h2 h3 h4 h5 h6 h7 h8 h9 hn
   |false=>
    have hn:=hq
    have hp:act s=({flat0 with kind:=8,name:=n,word:=3,of_:=o,give:=g,to_:=t},s9):=(jq3 h1).trans ((jx1 h2).trans ((jq3 h3).trans ((jx9 h4).trans ((jz1 h5).trans ((jq3 h6).trans ((jx1 h7).trans ((jq3 h8).trans ((jx1 h9).trans (by rw [nat_no hn];rfl)))))))))
    rw [hp]
    exact act_p8 E b s W h n s1 u2 s2 o s3 s4 s5 g s6 u7 s7 t s8 u9 s9 h1 h2 h3 h4 h5 h6 h7 h8 h9 hn
  |false=>
   obtain ⟨b6,s6,h6⟩: ∃x s',acc [109,111,118,101,115] s5=(x,s'):=⟨_,_,rfl⟩
   cases b6 with
   |true=>
    obtain ⟨r,s7,h7⟩: ∃x s',ratio s6=(x,s'):=⟨_,_,rfl⟩
    obtain ⟨u,s8,h8⟩: ∃x s',name s7=(x,s'):=⟨_,_,rfl⟩
    obtain ⟨b9,s9,h9⟩: ∃x s',acc [116,111] s8=(x,s'):=⟨_,_,rfl⟩
    cases b9 with
    |true=>
     obtain ⟨t,s10,h10⟩: ∃x s',name s9=(x,s'):=⟨_,_,rfl⟩
     obtain ⟨u11,s11,h11⟩: ∃x s',expect [[59]] s10=(x,s'):=⟨_,_,rfl⟩
     cases hq:(o== [110,97,116,117,114,101]) with
     |true=>
      have hn:o= [110,97,116,117,114,101]:=by simpa using hq
      have hp:act s=({flat0 with kind:=8,name:=n,word:=1,of_:= [],num:=r,unit:=u,to_:=t},s11):=(jq3 h1).trans ((jx1 h2).trans ((jq3 h3).trans ((jx9 h4).trans ((jx9 h5).trans ((jz1 h6).trans ((jq3 h7).trans ((jq3 h8).trans ((jz1 h9).trans ((jq3 h10).trans ((jx1 h11).trans (by rw [nat_yes hn];rfl)))))))))))
      rw [hp]
      exact act_p3 E b s W h n s1 u2 s2 o s3 s4 s5 s6 r s7 u s8 s9 t s10 u11 s11 h1 h2 h3 h4 h5 h6 h7 h8 h9 h10 h11 hn
     |false=>
      have hn:=hq
      have hp:act s=({flat0 with kind:=8,name:=n,word:=1,of_:=o,num:=r,unit:=u,to_:=t},s11):=(jq3 h1).trans ((jx1 h2).trans ((jq3 h3).trans ((jx9 h4).trans ((jx9 h5).trans ((jz1 h6).trans ((jq3 h7).trans ((jq3 h8).trans ((jz1 h9).trans ((jq3 h10).trans ((jx1 h11).trans (by rw [nat_no hn];rfl)))))))))))
      rw [hp]
      exact act_p9 E b s W h n s1 u2 s2 o s3 s4 s5 s6 r s7 u s8 s9 t s10 u11 s11 h1 h2 h3 h4 h5 h6 h7 h8 h9 h10 h11 hn
    |false=>
     obtain ⟨u10,s10,h10⟩: ∃x s',expect [[59]] s9=(x,s'):=⟨_,_,rfl⟩
     cases hq:(o== [110,97,116,117,114,101]) with
     |true=>
      have hn:o= [110,97,116,117,114,101]:=by simpa using hq
      have hp:act s=({flat0 with kind:=8,name:=n,word:=1,of_:= [],num:=r,unit:=u},s10):=(jq3 h1).trans ((jx1 h2).trans ((jq3 h3).trans ((jx9 h4).trans ((jx9 h5).trans ((jz1 h6).trans ((jq3 h7).trans ((jq3 h8).trans ((jx9 h9).trans ((jx1 h10).trans (by rw [nat_yes hn];rfl))))))))))
      rw [hp]
      exact act_p4 E b s W h n s1 u2 s2 o s3 s4 s5 s6 r s7 u s8 s9 u10 s10 h1 h2 h3 h4 h5 h6 h7 h8 h9 h10 hn
     |false=>
      have hn:=hq
      have hp:act s=({flat0 with kind:=8,name:=n,word:=1,of_:=o,num:=r,unit:=u},s10):=(jq3 h1).trans ((jx1 h2).trans ((jq3 h3).trans ((jx9 h4).trans ((jx9 h5).trans ((jz1 h6).trans ((jq3 h7).trans ((jq3 h8).trans ((jx9 h9).trans ((jx1 h10).trans (by rw [nat_no hn];rfl))))))))))
      rw [hp]
      exact act_p10 E b s W h n s1 u2 s2 o s3 s4 s5 s6 r s7 u s8 s9 u10 s10 h1 h2 h3 h4 h5 h6 h7 h8 h9 h10 hn
   |false=>
    obtain ⟨b7,s7,h7⟩: ∃x s',acc [116,111] s6=(x,s'):=⟨_,_,rfl⟩
    cases b7 with
    |true=>
     obtain ⟨t,s8,h8⟩: ∃x s',name s7=(x,s'):=⟨_,_,rfl⟩
     obtain ⟨u9,s9,h9⟩: ∃x s',expect [[59]] s8=(x,s'):=⟨_,_,rfl⟩
     cases hq:(o== [110,97,116,117,114,101]) with
     |true=>
      have hn:o= [110,97,116,117,114,101]:=by simpa using hq
      have hp:act s=({flat0 with kind:=8,name:=n,word:=1,of_:= [],to_:=t},s9):=(jq3 h1).trans ((jx1 h2).trans ((jq3 h3).trans ((jx9 h4).trans ((jx9 h5).trans ((jx9 h6).trans ((jz1 h7).trans ((jq3 h8).trans ((jx1 h9).trans (by rw [nat_yes hn];rfl)))))))))
      rw [hp]
      exact act_p5 E b s W h n s1 u2 s2 o s3 s4 s5 s6 s7 t s8 u9 s9 h1 h2 h3 h4 h5 h6 h7 h8 h9 hn
     |false=>
      have hn:=hq
      have hp:act s=({flat0 with kind:=8,name:=n,word:=1,of_:=o,to_:=t},s9):=(jq3 h1).trans ((jx1 h2).trans ((jq3 h3).trans ((jx9 h4).trans ((jx9 h5).trans ((jx9 h6).trans ((jz1 h7).trans ((jq3 h8).trans ((jx1 h9).trans (by rw [nat_no hn];rfl)))))))))
      rw [hp]
      exact act_p11 E b s W h n s1 u2 s2 o s3 s4 s5 s6 s7 t s8 u9 s9 h1 h2 h3 h4 h5 h6 h7 h8 h9 hn
    |false=>
     obtain ⟨u8,s8,h8⟩: ∃x s',expect [[59]] s7=(x,s'):=⟨_,_,rfl⟩
     cases hq:(o== [110,97,116,117,114,101]) with
     |true=>
      have hn:o= [110,97,116,117,114,101]:=by simpa using hq
      have hp:act s=({flat0 with kind:=8,name:=n,word:=1,of_:= []},s8):=(jq3 h1).trans ((jx1 h2).trans ((jq3 h3).trans ((jx9 h4).trans ((jx9 h5).trans ((jx9 h6).trans ((jx9 h7).trans ((jx1 h8).trans (by rw [nat_yes hn];rfl))))))))
      rw [hp]
      exact act_p6 E b s W h n s1 u2 s2 o s3 s4 s5 s6 s7 u8 s8 h1 h2 h3 h4 h5 h6 h7 h8 hn
     |false=>
      have hn:=hq
      have hp:act s=({flat0 with kind:=8,name:=n,word:=1,of_:=o},s8):=(jq3 h1).trans ((jx1 h2).trans ((jq3 h3).trans ((jx9 h4).trans ((jx9 h5).trans ((jx9 h6).trans ((jx9 h7).trans ((jx1 h8).trans (by rw [nat_no hn];rfl))))))))
      rw [hp]
      exact act_p12 E b s W h n s1 u2 s2 o s3 s4 s5 s6 s7 u8 s8 h1 h2 h3 h4 h5 h6 h7 h8 hn
end Go.Proofs.YtfaflipphkoiiaaDoor.Pr
