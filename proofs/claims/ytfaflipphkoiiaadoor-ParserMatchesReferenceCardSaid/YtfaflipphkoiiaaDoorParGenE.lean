/-
  What some methods of the parser return (printed by parwalk.py): duty, ban, option, watch, include.
-/
import Derived.Test.YtfaflipphkoiiaaDoorParCirc
import Derived.Test.YtfaflipphkoiiaaDoorParGenD
set_option maxHeartbeats 64000000
set_option maxRecDepth 100000
set_option linter.unusedVariables false
namespace Go.Proofs.YtfaflipphkoiiaaDoor.Pr
open Go.RowKit Mem
open Lx (Tok)
theorem IB.set_sn {q:Nat} {f:Flat} {sc sd sn si:Value} {W:World} (h:IB q f sc sd sn si W) (x:Value):IB q f sc sd x si (W.setCell ⟨q,31,none⟩ x):=by
 have h2:=jx4 h 31 x
 exact h2
theorem build_ban (n:Bytes) (w:World):(Instr.build 57 #[(0,.int .i64 10),(1,.string ⟨n.toArray⟩)]).run Tryd.prog w= .ok (.agg (icells {flat0 with kind:=10,name:=n} nil nil nil nil).toArray) w:=by kernel_rfl
theorem ban_p1 (E:Env) (b:Nat) (s:St) (W:World) (h:PW E b s W) (n:Bytes) (s1:St) (oa:Bytes×Bytes) (s2:St) (u3:Unit) (s3:St) (sp:Span) (s4:St) (c:List Named×Bytes×Bytes) (s5:St) (pq:Price×Bool) (s6:St) (u7:Unit) (s7:St) (h1:name s=(n,s1)) (h2:bearer s1=(oa,s2)) (h3:expect [[102,111,114]] s2=(u3,s3)) (h4:span s3=(sp,s4)) (h5:circ s4=(c,s5)) (h6:cons s5=(pq,s6)) (h7:expect [[59]] s6=(u7,s7)):
  Calls Tryd.prog 89 #[.pointer (some ⟨b,0,none⟩)] W fun e w'=>(∃sc sd sn,e= .returned (.agg (icells {flat0 with kind:=10,name:=n,of_:=oa.1,act:=oa.2,within:=sp,conds:=c.1,by_:=c.2.1,til:=c.2.2,num:=pq.1.num,unit:=pq.1.unit,sum:=pq.1.sum,to_:=pq.1.to_,fin:=pq.2} sc sd sn nil).toArray)∧FlatOK W.heap.size {flat0 with kind:=10,name:=n,of_:=oa.1,act:=oa.2,within:=sp,conds:=c.1,by_:=c.2.1,til:=c.2.2,num:=pq.1.num,unit:=pq.1.unit,sum:=pq.1.sum,to_:=pq.1.to_,fin:=pq.2} sc sd sn w')∧After E b s7 W w':=by
 have hbl:=h.2.2.1
 have HP:=hdd h;clear h
 have H1:=hdd h1;clear h1
 have H2:=hdd h2;clear h2
 have H3:=hdd h3;clear h3
 have H4:=hdd h4;clear h4
 have H5:=hdd h5;clear h5
 have H6:=hdd h6;clear h6
 have H7:=hdd h7;clear h7
 go_enter Tryd.func89,Tryd.ntmps89
 go_wp2_with fail
 refine (name_any E b s _ ((After.start HP.o).alloc _).1).mono ?_
 rw [H1.o]
 rintro e w1 ⟨rfl,hA⟩
 have GR:Hid (I0 W w1):=hA.2.blk (jq5 (by simp)) (by omega)
 have GA:=hdd (((After.start HP.o).alloc _).trans hA)
 have hs1:W.heap.size<w1.heap.size:=by have:=hA.2.size;simp only [World.size_alloc] at this;omega
 clear hA
 revert GR GA;intro HR HA
 go_wp2_with (first|(refine wpList_build rfl 57 _ rfl #[(0,.int .i64 10),(1,.string ⟨n.toArray⟩)] ?_ _ (build_ban n _) ?_;(simp [Act.eval]))|(refine jq4 rfl 57 _ _ rfl rfl (icells {flat0 with kind:=10,name:=n} nil nil nil nil).toArray rfl (jq6 _ _ _ _ _) (ic1 ..) (by rfl) ?_))
 refine (kq7 E b s1 _ (HA.o.alloc _).1 _ {flat0 with kind:=10,name:=n} nil nil nil nil (jq5 (by simp)) (by omega)).mono ?_
 rw [H2.o]
 rintro e w2 ⟨rfl,hI,hA⟩
 have GR:Hid (I0 W w2):=hA.2.blk (jq9 HR.o _) (by omega)
 have GA:=hdd ((HA.o.alloc _).ptr hA (by omega))
 have hs2:w1.heap.size<w2.heap.size:=jq7 hI
 have GI:Hid (I4 w1.heap.size {flat0 with kind:=10,name:=n,of_:=oa.1,act:=oa.2} w2):=hI
 clear hA hI
 clear HA
 clear HR
 revert GR GA GI;intro HR HA HI
 go_wp2_with fail
 refine (expect1 E b s2 [102,111,114] _ _ (by simp) HA.o.1).mono ?_
 rw [H3.o]
 rintro e w3 ⟨rfl,hA⟩
 have GR:Hid (I0 W w3):=hA.2.blk HR.o (by omega)
 have GI:Hid (I4 w1.heap.size {flat0 with kind:=10,name:=n,of_:=oa.1,act:=oa.2} w3):=hA.2.blk HI.o (by omega)
 have GA:=hdd (HA.o.trans hA)
 have hs3:W.heap.size<w3.heap.size:=by have:=hA.2.size;omega
 clear hA
 clear HA HR HI
 revert GR GI GA;intro HR HI HA
 go_wp2_with fail
 refine (span_any E b s3 _ HA.o.1).mono ?_
 rw [H4.o]
 rintro e w4 ⟨rfl,hA⟩
 have GR:Hid (I0 W w4):=hA.2.blk HR.o (by omega)
 have GI:Hid (I4 w1.heap.size {flat0 with kind:=10,name:=n,of_:=oa.1,act:=oa.2} w4):=hA.2.blk HI.o (by omega)
 have GA:=hdd (HA.o.trans hA)
 have hs4:W.heap.size<w4.heap.size:=by have:=hA.2.size;omega
 clear hA
 clear HA HR HI
 revert GR GI GA;intro HR HI HA
 have kI_7:w4.cell? ⟨w1.heap.size,7,none⟩=some (.int .i64 0):=jq0 HI.o 7
 have fI_7:w4.frozen? ⟨w1.heap.size,7,none⟩=false:=jq1 HI.o 7
 have kI_8:w4.cell? ⟨w1.heap.size,8,none⟩=some (.bool false):=jq0 HI.o 8
 have fI_8:w4.frozen? ⟨w1.heap.size,8,none⟩=false:=jq1 HI.o 8
 have kI_9:w4.cell? ⟨w1.heap.size,9,none⟩=some (.string ⟨#[]⟩):=jq0 HI.o 9
 have fI_9:w4.frozen? ⟨w1.heap.size,9,none⟩=false:=jq1 HI.o 9
 go_wp2_with fail
 have hqi:=jq7 HI.o
 refine (kz1 E b s4 _ (((HA.o.set (i:=7) (by omega) (by omega) (.int .i64 (sp.days:Int))).set (i:=8) (by omega) (by omega) (.bool sp.bus)).set (i:=9) (by omega) (by omega) (.string ⟨sp.name.toArray⟩)).1 _ {flat0 with kind:=10,name:=n,of_:=oa.1,act:=oa.2,within:=sp} nil nil nil (IB.set_within HI.o sp) (by omega) rfl rfl).mono ?_
 rw [H5.o]
 rintro e w5 ⟨rfl,⟨sc,hI,hO⟩,hA⟩
 have GR:Hid (I0 W w5):=hA.2.blk (jq2 (jq2 (jq2 HR.o (by omega) (.int .i64 (sp.days:Int))) (by omega) (.bool sp.bus)) (by omega) (.string ⟨sp.name.toArray⟩)) (by omega)
 have GRC:Hid (w5.ownsRow (w1.heap.size+1) 59 2 sc c.1.length (c.1.flatMap cval)):=own_base hO (by simp only [World.size_setCell];omega)
 have GA:=hdd ((((HA.o.set (i:=7) (by omega) (by omega) (.int .i64 (sp.days:Int))).set (i:=8) (by omega) (by omega) (.bool sp.bus)).set (i:=9) (by omega) (by omega) (.string ⟨sp.name.toArray⟩)).ptr hA (by omega))
 have hs5:w1.heap.size<w5.heap.size:=jq7 hI
 have GI:Hid (IB w1.heap.size {flat0 with kind:=10,name:=n,of_:=oa.1,act:=oa.2,within:=sp,conds:=c.1,by_:=c.2.1,til:=c.2.2} sc nil nil nil w5):=hI
 clear hA hI
 try clear kI_7 fI_7 kI_8 fI_8 kI_9 fI_9
 clear HA
 clear HR
 clear HI
 revert GR GRC GA GI;intro HR HRC HA HI
 go_wp2_with fail
 refine (cons_any E b s5 _ HA.o.1 _ {flat0 with kind:=10,name:=n,of_:=oa.1,act:=oa.2,within:=sp,conds:=c.1,by_:=c.2.1,til:=c.2.2} sc nil nil nil HI.o (by omega) ⟨rfl,rfl,rfl,rfl⟩).mono ?_
 rw [H6.o]
 rintro e w6 ⟨rfl,hI,hA⟩
 have GR:Hid (I0 W w6):=hA.2.blk HR.o (by omega)
 have GRC:=hdd (jx5 HRC.o hA.2 (fun k hk _ e=>by omega))
 have GA:=hdd (HA.o.ptr hA (by omega))
 have hs6:w1.heap.size<w6.heap.size:=jq7 hI
 have GI:Hid (IB w1.heap.size {flat0 with kind:=10,name:=n,of_:=oa.1,act:=oa.2,within:=sp,conds:=c.1,by_:=c.2.1,til:=c.2.2,num:=pq.1.num,unit:=pq.1.unit,sum:=pq.1.sum,to_:=pq.1.to_,fin:=pq.2} sc nil nil nil w6):=hI
 clear hA hI
 clear HA
 clear HR
 clear HI
 revert GR GA GI;intro HR HA HI
 clear HRC
 have HRC:=GRC;clear GRC
 go_wp2_with fail
 refine (expect1 E b s6 [59] _ _ (by simp) HA.o.1).mono ?_
 rw [H7.o]
 rintro e w7 ⟨rfl,hA⟩
 have GR:Hid (I0 W w7):=hA.2.blk HR.o (by omega)
 have GI:Hid (IB w1.heap.size {flat0 with kind:=10,name:=n,of_:=oa.1,act:=oa.2,within:=sp,conds:=c.1,by_:=c.2.1,til:=c.2.2,num:=pq.1.num,unit:=pq.1.unit,sum:=pq.1.sum,to_:=pq.1.to_,fin:=pq.2} sc nil nil nil w7):=hA.2.blk HI.o (by omega)
 have GRC:=hdd (jx5 HRC.o hA.2 (fun k hk _ e=>by omega))
 have GA:=hdd (HA.o.trans hA)
 have hs7:W.heap.size<w7.heap.size:=by have:=hA.2.size;omega
 clear hA
 clear HA HR HI
 revert GR GI GA;intro HR HI HA
 clear HRC
 have HRC:=GRC;clear GRC
 obtain ⟨w99,hw99,hA99,hl99,ho99⟩:=item_end (g:=flat0) (a1:=nil) (a2:=nil) (a3:=nil) (a4:=nil) HR.o HA.o hbl {flat0 with kind:=10,name:=n,of_:=oa.1,act:=oa.2,within:=sp,conds:=c.1,by_:=c.2.1,til:=c.2.2,num:=pq.1.num,unit:=pq.1.unit,sum:=pq.1.sum,to_:=pq.1.to_,fin:=pq.2} sc nil nil nil
 have R99RC:=hdd (own_base (ho99 _ _ _ _ _ _ (by omega) HRC.o) (by omega:W.heap.size≤_))
 have HW99:=hdd hw99;clear hw99
 have HA99:=hdd hA99;clear hA99
 have HL99:=hdd hl99;clear hl99 ho99
 have hsl: ∃A n c,sc= .slice A n c:=(own_form R99RC.o).imp fun A h=>h.elim fun c h=>⟨_,c,h⟩
 have HSL:=hdd hsl;clear hsl
 have HI9:Hid (IB w1.heap.size {flat0 with kind:=10,name:=n,of_:=oa.1,act:=oa.2,within:=sp,conds:=c.1,by_:=c.2.1,til:=c.2.2,num:=pq.1.num,unit:=pq.1.unit,sum:=pq.1.sum,to_:=pq.1.to_,fin:=pq.2} sc nil nil nil _):=HI.o
 have HR9:Hid (I0 W _):=HR.o
 go_wp2_with (first|(refine wpList_load_mid rfl 57 _ rfl w1.heap.size 0 rfl (icells {flat0 with kind:=10,name:=n,of_:=oa.1,act:=oa.2,within:=sp,conds:=c.1,by_:=c.2.1,til:=c.2.2,num:=pq.1.num,unit:=pq.1.unit,sum:=pq.1.sum,to_:=pq.1.to_,fin:=pq.2} sc nil nil nil) _ HI9.o.range Tryd.underlying57 rfl (jx6 _ _ _ _ _) ?_)|(refine wpList_store_mid rfl 57 _ _ rfl W.heap.size 0 (icells {flat0 with kind:=10,name:=n,of_:=oa.1,act:=oa.2,within:=sp,conds:=c.1,by_:=c.2.1,til:=c.2.2,num:=pq.1.num,unit:=pq.1.unit,sum:=pq.1.sum,to_:=pq.1.to_,fin:=pq.2} sc nil nil nil).toArray rfl rfl (HR9.o.there' _ _ _ _ _) (jq6 _ _ _ _ _) (jv2 _ _ _ _ _ HSL.o ⟨_,_,_,rfl⟩ ⟨_,_,_,rfl⟩ ⟨_,_,_,rfl⟩) ?_;rw [HW99.o]))
 exact bodyPost_ret (v:= .agg (icells {flat0 with kind:=10,name:=n,of_:=oa.1,act:=oa.2,within:=sp,conds:=c.1,by_:=c.2.1,til:=c.2.2,num:=pq.1.num,unit:=pq.1.unit,sum:=pq.1.sum,to_:=pq.1.to_,fin:=pq.2} sc nil nil nil).toArray) (jq8 Tryd.results89 rfl HL99.o) rfl ⟨⟨sc,nil,nil,rfl,⟨R99RC.o,World.ownsRow_nil _ _ _ _,World.ownsRow_nil _ _ _ _⟩⟩,HA99.o⟩
theorem ban_any (E:Env) (b:Nat) (s:St) (W:World) (h:PW E b s W):
  Calls Tryd.prog 89 #[.pointer (some ⟨b,0,none⟩)] W fun e w'=>(∃sc sd sn,e= .returned (.agg (icells (ban s).1 sc sd sn nil).toArray)∧FlatOK W.heap.size (ban s).1 sc sd sn w')∧After E b (ban s).2 W w':=by
 obtain ⟨n,s1,h1⟩: ∃x s',name s=(x,s'):=⟨_,_,rfl⟩
 obtain ⟨oa,s2,h2⟩: ∃x s',bearer s1=(x,s'):=⟨_,_,rfl⟩
 obtain ⟨u3,s3,h3⟩: ∃x s',expect [[102,111,114]] s2=(x,s'):=⟨_,_,rfl⟩
 obtain ⟨sp,s4,h4⟩: ∃x s',span s3=(x,s'):=⟨_,_,rfl⟩
 obtain ⟨c,s5,h5⟩: ∃x s',circ s4=(x,s'):=⟨_,_,rfl⟩
 obtain ⟨pq,s6,h6⟩: ∃x s',cons s5=(x,s'):=⟨_,_,rfl⟩
 obtain ⟨u7,s7,h7⟩: ∃x s',expect [[59]] s6=(x,s'):=⟨_,_,rfl⟩
 have hp:ban s=({flat0 with kind:=10,name:=n,of_:=oa.1,act:=oa.2,within:=sp,conds:=c.1,by_:=c.2.1,til:=c.2.2,num:=pq.1.num,unit:=pq.1.unit,sum:=pq.1.sum,to_:=pq.1.to_,fin:=pq.2},s7):=(jq3 h1).trans ((jq3 h2).trans ((jx1 h3).trans ((jq3 h4).trans ((jq3 h5).trans ((jq3 h6).trans ((jx1 h7).trans (rfl)))))))
 rw [hp]
 exact ban_p1 E b s W h n s1 oa s2 u3 s3 sp s4 c s5 pq s6 u7 s7 h1 h2 h3 h4 h5 h6 h7
theorem build_option (n:Bytes) (w:World):(Instr.build 57 #[(0,.int .i64 11),(1,.string ⟨n.toArray⟩)]).run Tryd.prog w= .ok (.agg (icells {flat0 with kind:=11,name:=n} nil nil nil nil).toArray) w:=by kernel_rfl
theorem option_p1 (E:Env) (b:Nat) (s:St) (W:World) (h:PW E b s W) (n:Bytes) (s1:St) (oa:Bytes×Bytes) (s2:St) (u3:Unit) (s3:St) (sp:Span) (s4:St) (c:List Named×Bytes×Bytes) (s5:St) (u6:Unit) (s6:St) (h1:name s=(n,s1)) (h2:bearer s1=(oa,s2)) (h3:expect [[119,105,116,104,105,110]] s2=(u3,s3)) (h4:span s3=(sp,s4)) (h5:circ s4=(c,s5)) (h6:expect [[59]] s5=(u6,s6)):
  Calls Tryd.prog 90 #[.pointer (some ⟨b,0,none⟩)] W fun e w'=>(∃sc sd sn,e= .returned (.agg (icells {flat0 with kind:=11,name:=n,of_:=oa.1,act:=oa.2,within:=sp,conds:=c.1,by_:=c.2.1,til:=c.2.2} sc sd sn nil).toArray)∧FlatOK W.heap.size {flat0 with kind:=11,name:=n,of_:=oa.1,act:=oa.2,within:=sp,conds:=c.1,by_:=c.2.1,til:=c.2.2} sc sd sn w')∧After E b s6 W w':=by
 have hbl:=h.2.2.1
 have HP:=hdd h;clear h
 have H1:=hdd h1;clear h1
 have H2:=hdd h2;clear h2
 have H3:=hdd h3;clear h3
 have H4:=hdd h4;clear h4
 have H5:=hdd h5;clear h5
 have H6:=hdd h6;clear h6
 go_enter Tryd.func90,Tryd.ntmps90
 go_wp2_with fail
 refine (name_any E b s _ ((After.start HP.o).alloc _).1).mono ?_
 rw [H1.o]
 rintro e w1 ⟨rfl,hA⟩
 have GR:Hid (I0 W w1):=hA.2.blk (jq5 (by simp)) (by omega)
 have GA:=hdd (((After.start HP.o).alloc _).trans hA)
 have hs1:W.heap.size<w1.heap.size:=by have:=hA.2.size;simp only [World.size_alloc] at this;omega
 clear hA
 revert GR GA;intro HR HA
 go_wp2_with (first|(refine wpList_build rfl 57 _ rfl #[(0,.int .i64 11),(1,.string ⟨n.toArray⟩)] ?_ _ (build_option n _) ?_;(simp [Act.eval]))|(refine jq4 rfl 57 _ _ rfl rfl (icells {flat0 with kind:=11,name:=n} nil nil nil nil).toArray rfl (jq6 _ _ _ _ _) (ic1 ..) (by rfl) ?_))
 refine (kq7 E b s1 _ (HA.o.alloc _).1 _ {flat0 with kind:=11,name:=n} nil nil nil nil (jq5 (by simp)) (by omega)).mono ?_
 rw [H2.o]
 rintro e w2 ⟨rfl,hI,hA⟩
 have GR:Hid (I0 W w2):=hA.2.blk (jq9 HR.o _) (by omega)
 have GA:=hdd ((HA.o.alloc _).ptr hA (by omega))
 have hs2:w1.heap.size<w2.heap.size:=jq7 hI
 have GI:Hid (I4 w1.heap.size {flat0 with kind:=11,name:=n,of_:=oa.1,act:=oa.2} w2):=hI
 clear hA hI
 clear HA
 clear HR
 revert GR GA GI;intro HR HA HI
 go_wp2_with fail
 refine (expect1 E b s2 [119,105,116,104,105,110] _ _ (by simp) HA.o.1).mono ?_
 rw [H3.o]
 rintro e w3 ⟨rfl,hA⟩
 have GR:Hid (I0 W w3):=hA.2.blk HR.o (by omega)
 have GI:Hid (I4 w1.heap.size {flat0 with kind:=11,name:=n,of_:=oa.1,act:=oa.2} w3):=hA.2.blk HI.o (by omega)
 have GA:=hdd (HA.o.trans hA)
 have hs3:W.heap.size<w3.heap.size:=by have:=hA.2.size;omega
 clear hA
 clear HA HR HI
 revert GR GI GA;intro HR HI HA
 go_wp2_with fail
 refine (span_any E b s3 _ HA.o.1).mono ?_
 rw [H4.o]
 rintro e w4 ⟨rfl,hA⟩
 have GR:Hid (I0 W w4):=hA.2.blk HR.o (by omega)
 have GI:Hid (I4 w1.heap.size {flat0 with kind:=11,name:=n,of_:=oa.1,act:=oa.2} w4):=hA.2.blk HI.o (by omega)
 have GA:=hdd (HA.o.trans hA)
 have hs4:W.heap.size<w4.heap.size:=by have:=hA.2.size;omega
 clear hA
 clear HA HR HI
 revert GR GI GA;intro HR HI HA
 have kI_7:w4.cell? ⟨w1.heap.size,7,none⟩=some (.int .i64 0):=jq0 HI.o 7
 have fI_7:w4.frozen? ⟨w1.heap.size,7,none⟩=false:=jq1 HI.o 7
 have kI_8:w4.cell? ⟨w1.heap.size,8,none⟩=some (.bool false):=jq0 HI.o 8
 have fI_8:w4.frozen? ⟨w1.heap.size,8,none⟩=false:=jq1 HI.o 8
 have kI_9:w4.cell? ⟨w1.heap.size,9,none⟩=some (.string ⟨#[]⟩):=jq0 HI.o 9
 have fI_9:w4.frozen? ⟨w1.heap.size,9,none⟩=false:=jq1 HI.o 9
 go_wp2_with fail
 have hqi:=jq7 HI.o
 refine (kz1 E b s4 _ (((HA.o.set (i:=7) (by omega) (by omega) (.int .i64 (sp.days:Int))).set (i:=8) (by omega) (by omega) (.bool sp.bus)).set (i:=9) (by omega) (by omega) (.string ⟨sp.name.toArray⟩)).1 _ {flat0 with kind:=11,name:=n,of_:=oa.1,act:=oa.2,within:=sp} nil nil nil (IB.set_within HI.o sp) (by omega) rfl rfl).mono ?_
 rw [H5.o]
 rintro e w5 ⟨rfl,⟨sc,hI,hO⟩,hA⟩
 have GR:Hid (I0 W w5):=hA.2.blk (jq2 (jq2 (jq2 HR.o (by omega) (.int .i64 (sp.days:Int))) (by omega) (.bool sp.bus)) (by omega) (.string ⟨sp.name.toArray⟩)) (by omega)
 have GRC:Hid (w5.ownsRow (w1.heap.size+1) 59 2 sc c.1.length (c.1.flatMap cval)):=own_base hO (by simp only [World.size_setCell];omega)
 have GA:=hdd ((((HA.o.set (i:=7) (by omega) (by omega) (.int .i64 (sp.days:Int))).set (i:=8) (by omega) (by omega) (.bool sp.bus)).set (i:=9) (by omega) (by omega) (.string ⟨sp.name.toArray⟩)).ptr hA (by omega))
 have hs5:w1.heap.size<w5.heap.size:=jq7 hI
 have GI:Hid (IB w1.heap.size {flat0 with kind:=11,name:=n,of_:=oa.1,act:=oa.2,within:=sp,conds:=c.1,by_:=c.2.1,til:=c.2.2} sc nil nil nil w5):=hI
 clear hA hI
 try clear kI_7 fI_7 kI_8 fI_8 kI_9 fI_9
 clear HA
 clear HR
 clear HI
 revert GR GRC GA GI;intro HR HRC HA HI
 go_wp2_with fail
 refine (expect1 E b s5 [59] _ _ (by simp) HA.o.1).mono ?_
 rw [H6.o]
 rintro e w6 ⟨rfl,hA⟩
 have GR:Hid (I0 W w6):=hA.2.blk HR.o (by omega)
 have GI:Hid (IB w1.heap.size {flat0 with kind:=11,name:=n,of_:=oa.1,act:=oa.2,within:=sp,conds:=c.1,by_:=c.2.1,til:=c.2.2} sc nil nil nil w6):=hA.2.blk HI.o (by omega)
 have GRC:=hdd (jx5 HRC.o hA.2 (fun k hk _ e=>by omega))
 have GA:=hdd (HA.o.trans hA)
 have hs6:W.heap.size<w6.heap.size:=by have:=hA.2.size;omega
 clear hA
 clear HA HR HI
 revert GR GI GA;intro HR HI HA
 clear HRC
 have HRC:=GRC;clear GRC
 obtain ⟨w99,hw99,hA99,hl99,ho99⟩:=item_end (g:=flat0) (a1:=nil) (a2:=nil) (a3:=nil) (a4:=nil) HR.o HA.o hbl {flat0 with kind:=11,name:=n,of_:=oa.1,act:=oa.2,within:=sp,conds:=c.1,by_:=c.2.1,til:=c.2.2} sc nil nil nil
 have R99RC:=hdd (own_base (ho99 _ _ _ _ _ _ (by omega) HRC.o) (by omega:W.heap.size≤_))
 have HW99:=hdd hw99;clear hw99
 have HA99:=hdd hA99;clear hA99
 have HL99:=hdd hl99;clear hl99 ho99
 have hsl: ∃A n c,sc= .slice A n c:=(own_form R99RC.o).imp fun A h=>h.elim fun c h=>⟨_,c,h⟩
 have HSL:=hdd hsl;clear hsl
 have HI9:Hid (IB w1.heap.size {flat0 with kind:=11,name:=n,of_:=oa.1,act:=oa.2,within:=sp,conds:=c.1,by_:=c.2.1,til:=c.2.2} sc nil nil nil _):=HI.o
 have HR9:Hid (I0 W _):=HR.o
 go_wp2_with (first|(refine wpList_load_mid rfl 57 _ rfl w1.heap.size 0 rfl (icells {flat0 with kind:=11,name:=n,of_:=oa.1,act:=oa.2,within:=sp,conds:=c.1,by_:=c.2.1,til:=c.2.2} sc nil nil nil) _ HI9.o.range Tryd.underlying57 rfl (jx6 _ _ _ _ _) ?_)|(refine wpList_store_mid rfl 57 _ _ rfl W.heap.size 0 (icells {flat0 with kind:=11,name:=n,of_:=oa.1,act:=oa.2,within:=sp,conds:=c.1,by_:=c.2.1,til:=c.2.2} sc nil nil nil).toArray rfl rfl (HR9.o.there' _ _ _ _ _) (jq6 _ _ _ _ _) (jv2 _ _ _ _ _ HSL.o ⟨_,_,_,rfl⟩ ⟨_,_,_,rfl⟩ ⟨_,_,_,rfl⟩) ?_;rw [HW99.o]))
 exact bodyPost_ret (v:= .agg (icells {flat0 with kind:=11,name:=n,of_:=oa.1,act:=oa.2,within:=sp,conds:=c.1,by_:=c.2.1,til:=c.2.2} sc nil nil nil).toArray) (jq8 Tryd.results90 rfl HL99.o) rfl ⟨⟨sc,nil,nil,rfl,⟨R99RC.o,World.ownsRow_nil _ _ _ _,World.ownsRow_nil _ _ _ _⟩⟩,HA99.o⟩
theorem option_any (E:Env) (b:Nat) (s:St) (W:World) (h:PW E b s W):
  Calls Tryd.prog 90 #[.pointer (some ⟨b,0,none⟩)] W fun e w'=>(∃sc sd sn,e= .returned (.agg (icells (option s).1 sc sd sn nil).toArray)∧FlatOK W.heap.size (option s).1 sc sd sn w')∧After E b (option s).2 W w':=by
 obtain ⟨n,s1,h1⟩: ∃x s',name s=(x,s'):=⟨_,_,rfl⟩
 obtain ⟨oa,s2,h2⟩: ∃x s',bearer s1=(x,s'):=⟨_,_,rfl⟩
 obtain ⟨u3,s3,h3⟩: ∃x s',expect [[119,105,116,104,105,110]] s2=(x,s'):=⟨_,_,rfl⟩
 obtain ⟨sp,s4,h4⟩: ∃x s',span s3=(x,s'):=⟨_,_,rfl⟩
 obtain ⟨c,s5,h5⟩: ∃x s',circ s4=(x,s'):=⟨_,_,rfl⟩
 obtain ⟨u6,s6,h6⟩: ∃x s',expect [[59]] s5=(x,s'):=⟨_,_,rfl⟩
 have hp:option s=({flat0 with kind:=11,name:=n,of_:=oa.1,act:=oa.2,within:=sp,conds:=c.1,by_:=c.2.1,til:=c.2.2},s6):=(jq3 h1).trans ((jq3 h2).trans ((jx1 h3).trans ((jq3 h4).trans ((jq3 h5).trans ((jx1 h6).trans (rfl))))))
 rw [hp]
 exact option_p1 E b s W h n s1 oa s2 u3 s3 sp s4 c s5 u6 s6 h1 h2 h3 h4 h5 h6
theorem build_watch (n:Bytes) (w:World):(Instr.build 57 #[(0,.int .i64 12),(1,.string ⟨n.toArray⟩)]).run Tryd.prog w= .ok (.agg (icells {flat0 with kind:=12,name:=n} nil nil nil nil).toArray) w:=by kernel_rfl
theorem watch_p1 (E:Env) (b:Nat) (s:St) (W:World) (h:PW E b s W) (n:Bytes) (s1:St) (u2:Unit) (s2:St) (a:Bytes) (s3:St) (u4:Unit) (s4:St) (sp:Span) (s5:St) (c:List Named×Bytes×Bytes) (s6:St) (u7:Unit) (s7:St) (h1:name s=(n,s1)) (h2:expect [[58]] s1=(u2,s2)) (h3:name s2=(a,s3)) (h4:expect [[119,105,116,104,105,110]] s3=(u4,s4)) (h5:span s4=(sp,s5)) (h6:circ s5=(c,s6)) (h7:expect [[59]] s6=(u7,s7)):
  Calls Tryd.prog 91 #[.pointer (some ⟨b,0,none⟩)] W fun e w'=>(∃sc sd sn,e= .returned (.agg (icells {flat0 with kind:=12,name:=n,act:=a,within:=sp,conds:=c.1,by_:=c.2.1,til:=c.2.2} sc sd sn nil).toArray)∧FlatOK W.heap.size {flat0 with kind:=12,name:=n,act:=a,within:=sp,conds:=c.1,by_:=c.2.1,til:=c.2.2} sc sd sn w')∧After E b s7 W w':=by
 have hbl:=h.2.2.1
 have HP:=hdd h;clear h
 have H1:=hdd h1;clear h1
 have H2:=hdd h2;clear h2
 have H3:=hdd h3;clear h3
 have H4:=hdd h4;clear h4
 have H5:=hdd h5;clear h5
 have H6:=hdd h6;clear h6
 have H7:=hdd h7;clear h7
 go_enter Tryd.func91,Tryd.ntmps91
 go_wp2_with fail
 refine (name_any E b s _ ((After.start HP.o).alloc _).1).mono ?_
 rw [H1.o]
 rintro e w1 ⟨rfl,hA⟩
 have GR:Hid (I0 W w1):=hA.2.blk (jq5 (by simp)) (by omega)
 have GA:=hdd (((After.start HP.o).alloc _).trans hA)
 have hs1:W.heap.size<w1.heap.size:=by have:=hA.2.size;simp only [World.size_alloc] at this;omega
 clear hA
 revert GR GA;intro HR HA
 go_wp2_with (first|(refine wpList_build rfl 57 _ rfl #[(0,.int .i64 12),(1,.string ⟨n.toArray⟩)] ?_ _ (build_watch n _) ?_;(simp [Act.eval]))|(refine jq4 rfl 57 _ _ rfl rfl (icells {flat0 with kind:=12,name:=n} nil nil nil nil).toArray rfl (jq6 _ _ _ _ _) (ic1 ..) (by rfl) ?_))
 refine (expect1 E b s1 [58] _ _ (by simp) (HA.o.alloc _).1).mono ?_
 rw [H2.o]
 rintro e w2 ⟨rfl,hA⟩
 have GR:Hid (I0 W w2):=hA.2.blk (jq9 HR.o _) (by omega)
 have GI:Hid (I4 w1.heap.size {flat0 with kind:=12,name:=n} w2):=hA.2.blk (jq5 (by simp)) (by omega)
 have GA:=hdd ((HA.o.alloc _).trans hA)
 have hs2:W.heap.size<w2.heap.size:=by have:=hA.2.size;simp only [World.size_alloc] at this;omega
 clear hA
 clear HA HR
 revert GR GI GA;intro HR HI HA
 go_wp2_with fail
 refine (name_any E b s2 _ HA.o.1).mono ?_
 rw [H3.o]
 rintro e w3 ⟨rfl,hA⟩
 have GR:Hid (I0 W w3):=hA.2.blk HR.o (by omega)
 have GI:Hid (I4 w1.heap.size {flat0 with kind:=12,name:=n} w3):=hA.2.blk HI.o (by omega)
 have GA:=hdd (HA.o.trans hA)
 have hs3:W.heap.size<w3.heap.size:=by have:=hA.2.size;omega
 clear hA
 clear HA HR HI
 revert GR GI GA;intro HR HI HA
 have kI_4:w3.cell? ⟨w1.heap.size,4,none⟩=some (.string ⟨#[]⟩):=jq0 HI.o 4
 have fI_4:w3.frozen? ⟨w1.heap.size,4,none⟩=false:=jq1 HI.o 4
 go_wp2_with fail
 refine (expect1 E b s3 [119,105,116,104,105,110] _ _ (by simp) (HA.o.set (i:=4) (by omega) (by omega) (.string ⟨a.toArray⟩)).1).mono ?_
 rw [H4.o]
 rintro e w4 ⟨rfl,hA⟩
 have GR:Hid (I0 W w4):=hA.2.blk (jq2 HR.o (by omega) (.string ⟨a.toArray⟩)) (by omega)
 have GI:Hid (I4 w1.heap.size {flat0 with kind:=12,name:=n,act:=a} w4):=hA.2.blk (IB.set_act HI.o a) (by omega)
 have GA:=hdd ((HA.o.set (i:=4) (by omega) (by omega) (.string ⟨a.toArray⟩)).trans hA)
 have hs4:W.heap.size<w4.heap.size:=by have:=hA.2.size;simp only [World.size_setCell] at this;omega
 clear hA
 try clear kI_4 fI_4
 clear HA HR HI
 revert GR GI GA;intro HR HI HA
 go_wp2_with fail
 refine (span_any E b s4 _ HA.o.1).mono ?_
 rw [H5.o]
 rintro e w5 ⟨rfl,hA⟩
 have GR:Hid (I0 W w5):=hA.2.blk HR.o (by omega)
 have GI:Hid (I4 w1.heap.size {flat0 with kind:=12,name:=n,act:=a} w5):=hA.2.blk HI.o (by omega)
 have GA:=hdd (HA.o.trans hA)
 have hs5:W.heap.size<w5.heap.size:=by have:=hA.2.size;omega
 clear hA
 clear HA HR HI
 revert GR GI GA;intro HR HI HA
 have kI_7:w5.cell? ⟨w1.heap.size,7,none⟩=some (.int .i64 0):=jq0 HI.o 7
 have fI_7:w5.frozen? ⟨w1.heap.size,7,none⟩=false:=jq1 HI.o 7
 have kI_8:w5.cell? ⟨w1.heap.size,8,none⟩=some (.bool false):=jq0 HI.o 8
 have fI_8:w5.frozen? ⟨w1.heap.size,8,none⟩=false:=jq1 HI.o 8
 have kI_9:w5.cell? ⟨w1.heap.size,9,none⟩=some (.string ⟨#[]⟩):=jq0 HI.o 9
 have fI_9:w5.frozen? ⟨w1.heap.size,9,none⟩=false:=jq1 HI.o 9
 go_wp2_with fail
 have hqi:=jq7 HI.o
 refine (kz1 E b s5 _ (((HA.o.set (i:=7) (by omega) (by omega) (.int .i64 (sp.days:Int))).set (i:=8) (by omega) (by omega) (.bool sp.bus)).set (i:=9) (by omega) (by omega) (.string ⟨sp.name.toArray⟩)).1 _ {flat0 with kind:=12,name:=n,act:=a,within:=sp} nil nil nil (IB.set_within HI.o sp) (by omega) rfl rfl).mono ?_
 rw [H6.o]
 rintro e w6 ⟨rfl,⟨sc,hI,hO⟩,hA⟩
 have GR:Hid (I0 W w6):=hA.2.blk (jq2 (jq2 (jq2 HR.o (by omega) (.int .i64 (sp.days:Int))) (by omega) (.bool sp.bus)) (by omega) (.string ⟨sp.name.toArray⟩)) (by omega)
 have GRC:Hid (w6.ownsRow (w1.heap.size+1) 59 2 sc c.1.length (c.1.flatMap cval)):=own_base hO (by simp only [World.size_setCell];omega)
 have GA:=hdd ((((HA.o.set (i:=7) (by omega) (by omega) (.int .i64 (sp.days:Int))).set (i:=8) (by omega) (by omega) (.bool sp.bus)).set (i:=9) (by omega) (by omega) (.string ⟨sp.name.toArray⟩)).ptr hA (by omega))
 have hs6:w1.heap.size<w6.heap.size:=jq7 hI
 have GI:Hid (IB w1.heap.size {flat0 with kind:=12,name:=n,act:=a,within:=sp,conds:=c.1,by_:=c.2.1,til:=c.2.2} sc nil nil nil w6):=hI
 clear hA hI
 try clear kI_7 fI_7 kI_8 fI_8 kI_9 fI_9
 clear HA
 clear HR
 clear HI
 revert GR GRC GA GI;intro HR HRC HA HI
 go_wp2_with fail
 refine (expect1 E b s6 [59] _ _ (by simp) HA.o.1).mono ?_
 rw [H7.o]
 rintro e w7 ⟨rfl,hA⟩
 have GR:Hid (I0 W w7):=hA.2.blk HR.o (by omega)
 have GI:Hid (IB w1.heap.size {flat0 with kind:=12,name:=n,act:=a,within:=sp,conds:=c.1,by_:=c.2.1,til:=c.2.2} sc nil nil nil w7):=hA.2.blk HI.o (by omega)
 have GRC:=hdd (jx5 HRC.o hA.2 (fun k hk _ e=>by omega))
 have GA:=hdd (HA.o.trans hA)
 have hs7:W.heap.size<w7.heap.size:=by have:=hA.2.size;omega
 clear hA
 clear HA HR HI
 revert GR GI GA;intro HR HI HA
 clear HRC
 have HRC:=GRC;clear GRC
 obtain ⟨w99,hw99,hA99,hl99,ho99⟩:=item_end (g:=flat0) (a1:=nil) (a2:=nil) (a3:=nil) (a4:=nil) HR.o HA.o hbl {flat0 with kind:=12,name:=n,act:=a,within:=sp,conds:=c.1,by_:=c.2.1,til:=c.2.2} sc nil nil nil
 have R99RC:=hdd (own_base (ho99 _ _ _ _ _ _ (by omega) HRC.o) (by omega:W.heap.size≤_))
 have HW99:=hdd hw99;clear hw99
 have HA99:=hdd hA99;clear hA99
 have HL99:=hdd hl99;clear hl99 ho99
 have hsl: ∃A n c,sc= .slice A n c:=(own_form R99RC.o).imp fun A h=>h.elim fun c h=>⟨_,c,h⟩
 have HSL:=hdd hsl;clear hsl
 have HI9:Hid (IB w1.heap.size {flat0 with kind:=12,name:=n,act:=a,within:=sp,conds:=c.1,by_:=c.2.1,til:=c.2.2} sc nil nil nil _):=HI.o
 have HR9:Hid (I0 W _):=HR.o
 go_wp2_with (first|(refine wpList_load_mid rfl 57 _ rfl w1.heap.size 0 rfl (icells {flat0 with kind:=12,name:=n,act:=a,within:=sp,conds:=c.1,by_:=c.2.1,til:=c.2.2} sc nil nil nil) _ HI9.o.range Tryd.underlying57 rfl (jx6 _ _ _ _ _) ?_)|(refine wpList_store_mid rfl 57 _ _ rfl W.heap.size 0 (icells {flat0 with kind:=12,name:=n,act:=a,within:=sp,conds:=c.1,by_:=c.2.1,til:=c.2.2} sc nil nil nil).toArray rfl rfl (HR9.o.there' _ _ _ _ _) (jq6 _ _ _ _ _) (jv2 _ _ _ _ _ HSL.o ⟨_,_,_,rfl⟩ ⟨_,_,_,rfl⟩ ⟨_,_,_,rfl⟩) ?_;rw [HW99.o]))
 exact bodyPost_ret (v:= .agg (icells {flat0 with kind:=12,name:=n,act:=a,within:=sp,conds:=c.1,by_:=c.2.1,til:=c.2.2} sc nil nil nil).toArray) (jq8 Tryd.results91 rfl HL99.o) rfl ⟨⟨sc,nil,nil,rfl,⟨R99RC.o,World.ownsRow_nil _ _ _ _,World.ownsRow_nil _ _ _ _⟩⟩,HA99.o⟩
theorem watch_any (E:Env) (b:Nat) (s:St) (W:World) (h:PW E b s W):
  Calls Tryd.prog 91 #[.pointer (some ⟨b,0,none⟩)] W fun e w'=>(∃sc sd sn,e= .returned (.agg (icells (watch s).1 sc sd sn nil).toArray)∧FlatOK W.heap.size (watch s).1 sc sd sn w')∧After E b (watch s).2 W w':=by
 obtain ⟨n,s1,h1⟩: ∃x s',name s=(x,s'):=⟨_,_,rfl⟩
 obtain ⟨u2,s2,h2⟩: ∃x s',expect [[58]] s1=(x,s'):=⟨_,_,rfl⟩
 obtain ⟨a,s3,h3⟩: ∃x s',name s2=(x,s'):=⟨_,_,rfl⟩
 obtain ⟨u4,s4,h4⟩: ∃x s',expect [[119,105,116,104,105,110]] s3=(x,s'):=⟨_,_,rfl⟩
 obtain ⟨sp,s5,h5⟩: ∃x s',span s4=(x,s'):=⟨_,_,rfl⟩
 obtain ⟨c,s6,h6⟩: ∃x s',circ s5=(x,s'):=⟨_,_,rfl⟩
 obtain ⟨u7,s7,h7⟩: ∃x s',expect [[59]] s6=(x,s'):=⟨_,_,rfl⟩
 have hp:watch s=({flat0 with kind:=12,name:=n,act:=a,within:=sp,conds:=c.1,by_:=c.2.1,til:=c.2.2},s7):=(jq3 h1).trans ((jx1 h2).trans ((jq3 h3).trans ((jx1 h4).trans ((jq3 h5).trans ((jq3 h6).trans ((jx1 h7).trans (rfl)))))))
 rw [hp]
 exact watch_p1 E b s W h n s1 u2 s2 a s3 u4 s4 sp s5 c s6 u7 s7 h1 h2 h3 h4 h5 h6 h7
theorem build_duty (n:Bytes) (w:World):(Instr.build 57 #[(0,.int .i64 9),(1,.string ⟨n.toArray⟩),(6,.int .i64 1)]).run Tryd.prog w= .ok (.agg (icells {flat0 with kind:=9,name:=n,times:=1} nil nil nil nil).toArray) w:=by kernel_rfl
theorem duty_p1 (E:Env) (b:Nat) (s:St) (W:World) (h:PW E b s W) (n:Bytes) (s1:St) (oa:Bytes×Bytes) (s2:St) (t3:Tok) (s3:St) (u4:Unit) (s4:St) (u5:Unit) (s5:St) (sp:Span) (s6:St) (s7:St) (gr:Span) (s8:St) (c:List Named×Bytes×Bytes) (s9:St) (pq:Price×Bool) (s10:St) (u11:Unit) (s11:St) (h1:name s=(n,s1)) (h2:bearer s1=(oa,s2)) (h3:opt 2 s2=(some t3,s3)) (h4:expect [[116,105,109,101,115]] s3=(u4,s4)) (h5:expect [[119,105,116,104,105,110]] s4=(u5,s5)) (h6:span s5=(sp,s6)) (h7:acc [103,114,97,99,101] s6=(true,s7)) (h8:span s7=(gr,s8)) (h9:circ s8=(c,s9)) (h10:cons s9=(pq,s10)) (h11:expect [[59]] s10=(u11,s11)):
  Calls Tryd.prog 88 #[.pointer (some ⟨b,0,none⟩)] W fun e w'=>(∃sc sd sn,e= .returned (.agg (icells {flat0 with kind:=9,name:=n,times:=t3.n,of_:=oa.1,act:=oa.2,within:=sp,grace:=gr,conds:=c.1,by_:=c.2.1,til:=c.2.2,num:=pq.1.num,unit:=pq.1.unit,sum:=pq.1.sum,to_:=pq.1.to_,fin:=pq.2} sc sd sn nil).toArray)∧FlatOK W.heap.size {flat0 with kind:=9,name:=n,times:=t3.n,of_:=oa.1,act:=oa.2,within:=sp,grace:=gr,conds:=c.1,by_:=c.2.1,til:=c.2.2,num:=pq.1.num,unit:=pq.1.unit,sum:=pq.1.sum,to_:=pq.1.to_,fin:=pq.2} sc sd sn w')∧After E b s11 W w':=by
 have hbl:=h.2.2.1
 have HP:=hdd h;clear h
 have H1:=hdd h1;clear h1
 have H2:=hdd h2;clear h2
 have H3:=hdd h3;clear h3
 have H4:=hdd h4;clear h4
 have H5:=hdd h5;clear h5
 have H6:=hdd h6;clear h6
 have H7:=hdd h7;clear h7
 have H8:=hdd h8;clear h8
 have H9:=hdd h9;clear h9
 have H10:=hdd h10;clear h10
 have H11:=hdd h11;clear h11
 go_enter Tryd.func88,Tryd.ntmps88
 go_wp2_with fail
 refine (name_any E b s _ ((After.start HP.o).alloc _).1).mono ?_
 rw [H1.o]
 rintro e w1 ⟨rfl,hA⟩
 have GR:Hid (I0 W w1):=hA.2.blk (jq5 (by simp)) (by omega)
 have GA:=hdd (((After.start HP.o).alloc _).trans hA)
 have hs1:W.heap.size<w1.heap.size:=by have:=hA.2.size;simp only [World.size_alloc] at this;omega
 clear hA
 revert GR GA;intro HR HA
 go_wp2_with (first|(refine wpList_build rfl 57 _ rfl #[(0,.int .i64 9),(1,.string ⟨n.toArray⟩),(6,.int .i64 1)] ?_ _ (build_duty n _) ?_;(simp [Act.eval]))|(refine jq4 rfl 57 _ _ rfl rfl (icells {flat0 with kind:=9,name:=n,times:=1} nil nil nil nil).toArray rfl (jq6 _ _ _ _ _) (ic1 ..) (by rfl) ?_))
 refine (kq7 E b s1 _ (HA.o.alloc _).1 _ {flat0 with kind:=9,name:=n,times:=1} nil nil nil nil (jq5 (by simp)) (by omega)).mono ?_
 rw [H2.o]
 rintro e w2 ⟨rfl,hI,hA⟩
 have GR:Hid (I0 W w2):=hA.2.blk (jq9 HR.o _) (by omega)
 have GA:=hdd ((HA.o.alloc _).ptr hA (by omega))
 have hs2:w1.heap.size<w2.heap.size:=jq7 hI
 have GI:Hid (I4 w1.heap.size {flat0 with kind:=9,name:=n,times:=1,of_:=oa.1,act:=oa.2} w2):=hI
 clear hA hI
 clear HA
 clear HR
 revert GR GA GI;intro HR HA HI
 go_wp2_with fail
 refine (jz7 E b s2 2 _ HA.o.1).mono ?_
 rw [(kx2 H3.o).1]
 rintro e w3 ⟨rfl,m3,rfl⟩
 go_wp2_with fail
 refine (number_any E b s2 _ (HA.o.drewN m3).1).mono ?_
 rw [kx9 H3.o]
 rintro e w3 ⟨rfl,hA⟩
 have GR:Hid (I0 W w3):=hA.2.blk (jx2 HR.o m3) (by omega)
 have GI:Hid (I4 w1.heap.size {flat0 with kind:=9,name:=n,times:=1,of_:=oa.1,act:=oa.2} w3):=hA.2.blk (jx2 HI.o m3) (by omega)
 have GA:=hdd ((HA.o.drewN m3).trans hA)
 have hs3:W.heap.size<w3.heap.size:=by have:=hA.2.size;simp only [kq6] at this;omega
 clear hA
 clear HA HR HI
 revert GR GI GA;intro HR HI HA
 have kI_6:w3.cell? ⟨w1.heap.size,6,none⟩=some (.int .i64 1):=jq0 HI.o 6
 have fI_6:w3.frozen? ⟨w1.heap.size,6,none⟩=false:=jq1 HI.o 6
 go_wp2_with fail
 refine (expect1 E b s3 [116,105,109,101,115] _ _ (by simp) (HA.o.set (i:=6) (by omega) (by omega) (.int .i64 (t3.n:Int))).1).mono ?_
 rw [H4.o]
 rintro e w4 ⟨rfl,hA⟩
 have GR:Hid (I0 W w4):=hA.2.blk (jq2 HR.o (by omega) (.int .i64 (t3.n:Int))) (by omega)
 have GI:Hid (I4 w1.heap.size {flat0 with kind:=9,name:=n,times:=t3.n,of_:=oa.1,act:=oa.2} w4):=hA.2.blk (IB.set_times HI.o t3.n) (by omega)
 have GA:=hdd ((HA.o.set (i:=6) (by omega) (by omega) (.int .i64 (t3.n:Int))).trans hA)
 have hs4:W.heap.size<w4.heap.size:=by have:=hA.2.size;simp only [World.size_setCell] at this;omega
 clear hA
 try clear kI_6 fI_6
 clear HA HR HI
 revert GR GI GA;intro HR HI HA
 go_wp2_with fail
 refine (expect1 E b s4 [119,105,116,104,105,110] _ _ (by simp) HA.o.1).mono ?_
 rw [H5.o]
 rintro e w5 ⟨rfl,hA⟩
 have GR:Hid (I0 W w5):=hA.2.blk HR.o (by omega)
 have GI:Hid (I4 w1.heap.size {flat0 with kind:=9,name:=n,times:=t3.n,of_:=oa.1,act:=oa.2} w5):=hA.2.blk HI.o (by omega)
 have GA:=hdd (HA.o.trans hA)
 have hs5:W.heap.size<w5.heap.size:=by have:=hA.2.size;omega
 clear hA
 clear HA HR HI
 revert GR GI GA;intro HR HI HA
 go_wp2_with fail
 refine (span_any E b s5 _ HA.o.1).mono ?_
 rw [H6.o]
 rintro e w6 ⟨rfl,hA⟩
 have GR:Hid (I0 W w6):=hA.2.blk HR.o (by omega)
 have GI:Hid (I4 w1.heap.size {flat0 with kind:=9,name:=n,times:=t3.n,of_:=oa.1,act:=oa.2} w6):=hA.2.blk HI.o (by omega)
 have GA:=hdd (HA.o.trans hA)
 have hs6:W.heap.size<w6.heap.size:=by have:=hA.2.size;omega
 clear hA
 clear HA HR HI
 revert GR GI GA;intro HR HI HA
 have kI_7:w6.cell? ⟨w1.heap.size,7,none⟩=some (.int .i64 0):=jq0 HI.o 7
 have fI_7:w6.frozen? ⟨w1.heap.size,7,none⟩=false:=jq1 HI.o 7
 have kI_8:w6.cell? ⟨w1.heap.size,8,none⟩=some (.bool false):=jq0 HI.o 8
 have fI_8:w6.frozen? ⟨w1.heap.size,8,none⟩=false:=jq1 HI.o 8
 have kI_9:w6.cell? ⟨w1.heap.size,9,none⟩=some (.string ⟨#[]⟩):=jq0 HI.o 9
 have fI_9:w6.frozen? ⟨w1.heap.size,9,none⟩=false:=jq1 HI.o 9
 go_wp2_with fail
 refine (jx0 E b s6 [103,114,97,99,101] _ (((HA.o.set (i:=7) (by omega) (by omega) (.int .i64 (sp.days:Int))).set (i:=8) (by omega) (by omega) (.bool sp.bus)).set (i:=9) (by omega) (by omega) (.string ⟨sp.name.toArray⟩)).1).mono ?_
 rw [H7.o]
 rintro e w7 ⟨rfl,hA⟩
 have GR:Hid (I0 W w7):=hA.2.blk (jq2 (jq2 (jq2 HR.o (by omega) (.int .i64 (sp.days:Int))) (by omega) (.bool sp.bus)) (by omega) (.string ⟨sp.name.toArray⟩)) (by omega)
 have GI:Hid (I4 w1.heap.size {flat0 with kind:=9,name:=n,times:=t3.n,of_:=oa.1,act:=oa.2,within:=sp} w7):=hA.2.blk (IB.set_within HI.o sp) (by omega)
 have GA:=hdd ((((HA.o.set (i:=7) (by omega) (by omega) (.int .i64 (sp.days:Int))).set (i:=8) (by omega) (by omega) (.bool sp.bus)).set (i:=9) (by omega) (by omega) (.string ⟨sp.name.toArray⟩)).trans hA)
 have hs7:W.heap.size<w7.heap.size:=by have:=hA.2.size;simp only [World.size_setCell] at this;omega
 clear hA
 try clear kI_7 fI_7 kI_8 fI_8 kI_9 fI_9
 clear HA HR HI
 revert GR GI GA;intro HR HI HA
 go_wp2_with fail
 refine (span_any E b s7 _ HA.o.1).mono ?_
 rw [H8.o]
 rintro e w8 ⟨rfl,hA⟩
 have GR:Hid (I0 W w8):=hA.2.blk HR.o (by omega)
 have GI:Hid (I4 w1.heap.size {flat0 with kind:=9,name:=n,times:=t3.n,of_:=oa.1,act:=oa.2,within:=sp} w8):=hA.2.blk HI.o (by omega)
 have GA:=hdd (HA.o.trans hA)
 have hs8:W.heap.size<w8.heap.size:=by have:=hA.2.size;omega
 clear hA
 clear HA HR HI
 revert GR GI GA;intro HR HI HA
 have kI_10:w8.cell? ⟨w1.heap.size,10,none⟩=some (.int .i64 0):=jq0 HI.o 10
 have fI_10:w8.frozen? ⟨w1.heap.size,10,none⟩=false:=jq1 HI.o 10
 have kI_11:w8.cell? ⟨w1.heap.size,11,none⟩=some (.bool false):=jq0 HI.o 11
 have fI_11:w8.frozen? ⟨w1.heap.size,11,none⟩=false:=jq1 HI.o 11
 have kI_12:w8.cell? ⟨w1.heap.size,12,none⟩=some (.string ⟨#[]⟩):=jq0 HI.o 12
 have fI_12:w8.frozen? ⟨w1.heap.size,12,none⟩=false:=jq1 HI.o 12
 go_wp2_with fail
 have hqi:=jq7 HI.o
 refine (kz1 E b s8 _ (((HA.o.set (i:=10) (by omega) (by omega) (.int .i64 (gr.days:Int))).set (i:=11) (by omega) (by omega) (.bool gr.bus)).set (i:=12) (by omega) (by omega) (.string ⟨gr.name.toArray⟩)).1 _ {flat0 with kind:=9,name:=n,times:=t3.n,of_:=oa.1,act:=oa.2,within:=sp,grace:=gr} nil nil nil (IB.set_grace HI.o gr) (by omega) rfl rfl).mono ?_
 rw [H9.o]
 rintro e w9 ⟨rfl,⟨sc,hI,hO⟩,hA⟩
 have GR:Hid (I0 W w9):=hA.2.blk (jq2 (jq2 (jq2 HR.o (by omega) (.int .i64 (gr.days:Int))) (by omega) (.bool gr.bus)) (by omega) (.string ⟨gr.name.toArray⟩)) (by omega)
 have GRC:Hid (w9.ownsRow (w1.heap.size+1) 59 2 sc c.1.length (c.1.flatMap cval)):=own_base hO (by simp only [World.size_setCell];omega)
 have GA:=hdd ((((HA.o.set (i:=10) (by omega) (by omega) (.int .i64 (gr.days:Int))).set (i:=11) (by omega) (by omega) (.bool gr.bus)).set (i:=12) (by omega) (by omega) (.string ⟨gr.name.toArray⟩)).ptr hA (by omega))
 have hs9:w1.heap.size<w9.heap.size:=jq7 hI
 have GI:Hid (IB w1.heap.size {flat0 with kind:=9,name:=n,times:=t3.n,of_:=oa.1,act:=oa.2,within:=sp,grace:=gr,conds:=c.1,by_:=c.2.1,til:=c.2.2} sc nil nil nil w9):=hI
 clear hA hI
 try clear kI_10 fI_10 kI_11 fI_11 kI_12 fI_12
 clear HA
 clear HR
 clear HI
 revert GR GRC GA GI;intro HR HRC HA HI
 go_wp2_with fail
 refine (cons_any E b s9 _ HA.o.1 _ {flat0 with kind:=9,name:=n,times:=t3.n,of_:=oa.1,act:=oa.2,within:=sp,grace:=gr,conds:=c.1,by_:=c.2.1,til:=c.2.2} sc nil nil nil HI.o (by omega) ⟨rfl,rfl,rfl,rfl⟩).mono ?_
 rw [H10.o]
 rintro e w10 ⟨rfl,hI,hA⟩
 have GR:Hid (I0 W w10):=hA.2.blk HR.o (by omega)
 have GRC:=hdd (jx5 HRC.o hA.2 (fun k hk _ e=>by omega))
 have GA:=hdd (HA.o.ptr hA (by omega))
 have hs10:w1.heap.size<w10.heap.size:=jq7 hI
 have GI:Hid (IB w1.heap.size {flat0 with kind:=9,name:=n,times:=t3.n,of_:=oa.1,act:=oa.2,within:=sp,grace:=gr,conds:=c.1,by_:=c.2.1,til:=c.2.2,num:=pq.1.num,unit:=pq.1.unit,sum:=pq.1.sum,to_:=pq.1.to_,fin:=pq.2} sc nil nil nil w10):=hI
 clear hA hI
 clear HA
 clear HR
 clear HI
 revert GR GA GI;intro HR HA HI
 clear HRC
 have HRC:=GRC;clear GRC
 go_wp2_with fail
 refine (expect1 E b s10 [59] _ _ (by simp) HA.o.1).mono ?_
 rw [H11.o]
 rintro e w11 ⟨rfl,hA⟩
 have GR:Hid (I0 W w11):=hA.2.blk HR.o (by omega)
 have GI:Hid (IB w1.heap.size {flat0 with kind:=9,name:=n,times:=t3.n,of_:=oa.1,act:=oa.2,within:=sp,grace:=gr,conds:=c.1,by_:=c.2.1,til:=c.2.2,num:=pq.1.num,unit:=pq.1.unit,sum:=pq.1.sum,to_:=pq.1.to_,fin:=pq.2} sc nil nil nil w11):=hA.2.blk HI.o (by omega)
 have GRC:=hdd (jx5 HRC.o hA.2 (fun k hk _ e=>by omega))
 have GA:=hdd (HA.o.trans hA)
 have hs11:W.heap.size<w11.heap.size:=by have:=hA.2.size;omega
 clear hA
 clear HA HR HI
 revert GR GI GA;intro HR HI HA
 clear HRC
 have HRC:=GRC;clear GRC
 obtain ⟨w99,hw99,hA99,hl99,ho99⟩:=item_end (g:=flat0) (a1:=nil) (a2:=nil) (a3:=nil) (a4:=nil) HR.o HA.o hbl {flat0 with kind:=9,name:=n,times:=t3.n,of_:=oa.1,act:=oa.2,within:=sp,grace:=gr,conds:=c.1,by_:=c.2.1,til:=c.2.2,num:=pq.1.num,unit:=pq.1.unit,sum:=pq.1.sum,to_:=pq.1.to_,fin:=pq.2} sc nil nil nil
 have R99RC:=hdd (own_base (ho99 _ _ _ _ _ _ (by omega) HRC.o) (by omega:W.heap.size≤_))
 have HW99:=hdd hw99;clear hw99
 have HA99:=hdd hA99;clear hA99
 have HL99:=hdd hl99;clear hl99 ho99
 have hsl: ∃A n c,sc= .slice A n c:=(own_form R99RC.o).imp fun A h=>h.elim fun c h=>⟨_,c,h⟩
 have HSL:=hdd hsl;clear hsl
 have HI9:Hid (IB w1.heap.size {flat0 with kind:=9,name:=n,times:=t3.n,of_:=oa.1,act:=oa.2,within:=sp,grace:=gr,conds:=c.1,by_:=c.2.1,til:=c.2.2,num:=pq.1.num,unit:=pq.1.unit,sum:=pq.1.sum,to_:=pq.1.to_,fin:=pq.2} sc nil nil nil _):=HI.o
 have HR9:Hid (I0 W _):=HR.o
 go_wp2_with (first|(refine wpList_load_mid rfl 57 _ rfl w1.heap.size 0 rfl (icells {flat0 with kind:=9,name:=n,times:=t3.n,of_:=oa.1,act:=oa.2,within:=sp,grace:=gr,conds:=c.1,by_:=c.2.1,til:=c.2.2,num:=pq.1.num,unit:=pq.1.unit,sum:=pq.1.sum,to_:=pq.1.to_,fin:=pq.2} sc nil nil nil) _ HI9.o.range Tryd.underlying57 rfl (jx6 _ _ _ _ _) ?_)|(refine wpList_store_mid rfl 57 _ _ rfl W.heap.size 0 (icells {flat0 with kind:=9,name:=n,times:=t3.n,of_:=oa.1,act:=oa.2,within:=sp,grace:=gr,conds:=c.1,by_:=c.2.1,til:=c.2.2,num:=pq.1.num,unit:=pq.1.unit,sum:=pq.1.sum,to_:=pq.1.to_,fin:=pq.2} sc nil nil nil).toArray rfl rfl (HR9.o.there' _ _ _ _ _) (jq6 _ _ _ _ _) (jv2 _ _ _ _ _ HSL.o ⟨_,_,_,rfl⟩ ⟨_,_,_,rfl⟩ ⟨_,_,_,rfl⟩) ?_;rw [HW99.o]))
 exact bodyPost_ret (v:= .agg (icells {flat0 with kind:=9,name:=n,times:=t3.n,of_:=oa.1,act:=oa.2,within:=sp,grace:=gr,conds:=c.1,by_:=c.2.1,til:=c.2.2,num:=pq.1.num,unit:=pq.1.unit,sum:=pq.1.sum,to_:=pq.1.to_,fin:=pq.2} sc nil nil nil).toArray) (jq8 Tryd.results88 rfl HL99.o) rfl ⟨⟨sc,nil,nil,rfl,⟨R99RC.o,World.ownsRow_nil _ _ _ _,World.ownsRow_nil _ _ _ _⟩⟩,HA99.o⟩
theorem duty_p2 (E:Env) (b:Nat) (s:St) (W:World) (h:PW E b s W) (n:Bytes) (s1:St) (oa:Bytes×Bytes) (s2:St) (t3:Tok) (s3:St) (u4:Unit) (s4:St) (u5:Unit) (s5:St) (sp:Span) (s6:St) (s7:St) (c:List Named×Bytes×Bytes) (s8:St) (pq:Price×Bool) (s9:St) (u10:Unit) (s10:St) (h1:name s=(n,s1)) (h2:bearer s1=(oa,s2)) (h3:opt 2 s2=(some t3,s3)) (h4:expect [[116,105,109,101,115]] s3=(u4,s4)) (h5:expect [[119,105,116,104,105,110]] s4=(u5,s5)) (h6:span s5=(sp,s6)) (h7:acc [103,114,97,99,101] s6=(false,s7)) (h8:circ s7=(c,s8)) (h9:cons s8=(pq,s9)) (h10:expect [[59]] s9=(u10,s10)):
  Calls Tryd.prog 88 #[.pointer (some ⟨b,0,none⟩)] W fun e w'=>(∃sc sd sn,e= .returned (.agg (icells {flat0 with kind:=9,name:=n,times:=t3.n,of_:=oa.1,act:=oa.2,within:=sp,conds:=c.1,by_:=c.2.1,til:=c.2.2,num:=pq.1.num,unit:=pq.1.unit,sum:=pq.1.sum,to_:=pq.1.to_,fin:=pq.2} sc sd sn nil).toArray)∧FlatOK W.heap.size {flat0 with kind:=9,name:=n,times:=t3.n,of_:=oa.1,act:=oa.2,within:=sp,conds:=c.1,by_:=c.2.1,til:=c.2.2,num:=pq.1.num,unit:=pq.1.unit,sum:=pq.1.sum,to_:=pq.1.to_,fin:=pq.2} sc sd sn w')∧After E b s10 W w':=by
 have hbl:=h.2.2.1
 have HP:=hdd h;clear h
 have H1:=hdd h1;clear h1
 have H2:=hdd h2;clear h2
 have H3:=hdd h3;clear h3
 have H4:=hdd h4;clear h4
 have H5:=hdd h5;clear h5
 have H6:=hdd h6;clear h6
 have H7:=hdd h7;clear h7
 have H8:=hdd h8;clear h8
 have H9:=hdd h9;clear h9
 have H10:=hdd h10;clear h10
 go_enter Tryd.func88,Tryd.ntmps88
 go_wp2_with fail
 refine (name_any E b s _ ((After.start HP.o).alloc _).1).mono ?_
 rw [H1.o]
 rintro e w1 ⟨rfl,hA⟩
 have GR:Hid (I0 W w1):=hA.2.blk (jq5 (by simp)) (by omega)
 have GA:=hdd (((After.start HP.o).alloc _).trans hA)
 have hs1:W.heap.size<w1.heap.size:=by have:=hA.2.size;simp only [World.size_alloc] at this;omega
 clear hA
 revert GR GA;intro HR HA
 go_wp2_with (first|(refine wpList_build rfl 57 _ rfl #[(0,.int .i64 9),(1,.string ⟨n.toArray⟩),(6,.int .i64 1)] ?_ _ (build_duty n _) ?_;(simp [Act.eval]))|(refine jq4 rfl 57 _ _ rfl rfl (icells {flat0 with kind:=9,name:=n,times:=1} nil nil nil nil).toArray rfl (jq6 _ _ _ _ _) (ic1 ..) (by rfl) ?_))
 refine (kq7 E b s1 _ (HA.o.alloc _).1 _ {flat0 with kind:=9,name:=n,times:=1} nil nil nil nil (jq5 (by simp)) (by omega)).mono ?_
 rw [H2.o]
 rintro e w2 ⟨rfl,hI,hA⟩
 have GR:Hid (I0 W w2):=hA.2.blk (jq9 HR.o _) (by omega)
 have GA:=hdd ((HA.o.alloc _).ptr hA (by omega))
 have hs2:w1.heap.size<w2.heap.size:=jq7 hI
 have GI:Hid (I4 w1.heap.size {flat0 with kind:=9,name:=n,times:=1,of_:=oa.1,act:=oa.2} w2):=hI
 clear hA hI
 clear HA
 clear HR
 revert GR GA GI;intro HR HA HI
 go_wp2_with fail
 refine (jz7 E b s2 2 _ HA.o.1).mono ?_
 rw [(kx2 H3.o).1]
 rintro e w3 ⟨rfl,m3,rfl⟩
 go_wp2_with fail
 refine (number_any E b s2 _ (HA.o.drewN m3).1).mono ?_
 rw [kx9 H3.o]
 rintro e w3 ⟨rfl,hA⟩
 have GR:Hid (I0 W w3):=hA.2.blk (jx2 HR.o m3) (by omega)
 have GI:Hid (I4 w1.heap.size {flat0 with kind:=9,name:=n,times:=1,of_:=oa.1,act:=oa.2} w3):=hA.2.blk (jx2 HI.o m3) (by omega)
 have GA:=hdd ((HA.o.drewN m3).trans hA)
 have hs3:W.heap.size<w3.heap.size:=by have:=hA.2.size;simp only [kq6] at this;omega
 clear hA
 clear HA HR HI
 revert GR GI GA;intro HR HI HA
 have kI_6:w3.cell? ⟨w1.heap.size,6,none⟩=some (.int .i64 1):=jq0 HI.o 6
 have fI_6:w3.frozen? ⟨w1.heap.size,6,none⟩=false:=jq1 HI.o 6
 go_wp2_with fail
 refine (expect1 E b s3 [116,105,109,101,115] _ _ (by simp) (HA.o.set (i:=6) (by omega) (by omega) (.int .i64 (t3.n:Int))).1).mono ?_
 rw [H4.o]
 rintro e w4 ⟨rfl,hA⟩
 have GR:Hid (I0 W w4):=hA.2.blk (jq2 HR.o (by omega) (.int .i64 (t3.n:Int))) (by omega)
 have GI:Hid (I4 w1.heap.size {flat0 with kind:=9,name:=n,times:=t3.n,of_:=oa.1,act:=oa.2} w4):=hA.2.blk (IB.set_times HI.o t3.n) (by omega)
 have GA:=hdd ((HA.o.set (i:=6) (by omega) (by omega) (.int .i64 (t3.n:Int))).trans hA)
 have hs4:W.heap.size<w4.heap.size:=by have:=hA.2.size;simp only [World.size_setCell] at this;omega
 clear hA
 try clear kI_6 fI_6
 clear HA HR HI
 revert GR GI GA;intro HR HI HA
 go_wp2_with fail
 refine (expect1 E b s4 [119,105,116,104,105,110] _ _ (by simp) HA.o.1).mono ?_
 rw [H5.o]
 rintro e w5 ⟨rfl,hA⟩
 have GR:Hid (I0 W w5):=hA.2.blk HR.o (by omega)
 have GI:Hid (I4 w1.heap.size {flat0 with kind:=9,name:=n,times:=t3.n,of_:=oa.1,act:=oa.2} w5):=hA.2.blk HI.o (by omega)
 have GA:=hdd (HA.o.trans hA)
 have hs5:W.heap.size<w5.heap.size:=by have:=hA.2.size;omega
 clear hA
 clear HA HR HI
 revert GR GI GA;intro HR HI HA
 go_wp2_with fail
 refine (span_any E b s5 _ HA.o.1).mono ?_
 rw [H6.o]
 rintro e w6 ⟨rfl,hA⟩
 have GR:Hid (I0 W w6):=hA.2.blk HR.o (by omega)
 have GI:Hid (I4 w1.heap.size {flat0 with kind:=9,name:=n,times:=t3.n,of_:=oa.1,act:=oa.2} w6):=hA.2.blk HI.o (by omega)
 have GA:=hdd (HA.o.trans hA)
 have hs6:W.heap.size<w6.heap.size:=by have:=hA.2.size;omega
 clear hA
 clear HA HR HI
 revert GR GI GA;intro HR HI HA
 have kI_7:w6.cell? ⟨w1.heap.size,7,none⟩=some (.int .i64 0):=jq0 HI.o 7
 have fI_7:w6.frozen? ⟨w1.heap.size,7,none⟩=false:=jq1 HI.o 7
 have kI_8:w6.cell? ⟨w1.heap.size,8,none⟩=some (.bool false):=jq0 HI.o 8
 have fI_8:w6.frozen? ⟨w1.heap.size,8,none⟩=false:=jq1 HI.o 8
 have kI_9:w6.cell? ⟨w1.heap.size,9,none⟩=some (.string ⟨#[]⟩):=jq0 HI.o 9
 have fI_9:w6.frozen? ⟨w1.heap.size,9,none⟩=false:=jq1 HI.o 9
 go_wp2_with fail
 refine (jx0 E b s6 [103,114,97,99,101] _ (((HA.o.set (i:=7) (by omega) (by omega) (.int .i64 (sp.days:Int))).set (i:=8) (by omega) (by omega) (.bool sp.bus)).set (i:=9) (by omega) (by omega) (.string ⟨sp.name.toArray⟩)).1).mono ?_
 rw [H7.o]
 rintro e w7 ⟨rfl,hA⟩
 have GR:Hid (I0 W w7):=hA.2.blk (jq2 (jq2 (jq2 HR.o (by omega) (.int .i64 (sp.days:Int))) (by omega) (.bool sp.bus)) (by omega) (.string ⟨sp.name.toArray⟩)) (by omega)
 have GI:Hid (I4 w1.heap.size {flat0 with kind:=9,name:=n,times:=t3.n,of_:=oa.1,act:=oa.2,within:=sp} w7):=hA.2.blk (IB.set_within HI.o sp) (by omega)
 have GA:=hdd ((((HA.o.set (i:=7) (by omega) (by omega) (.int .i64 (sp.days:Int))).set (i:=8) (by omega) (by omega) (.bool sp.bus)).set (i:=9) (by omega) (by omega) (.string ⟨sp.name.toArray⟩)).trans hA)
 have hs7:W.heap.size<w7.heap.size:=by have:=hA.2.size;simp only [World.size_setCell] at this;omega
 clear hA
 try clear kI_7 fI_7 kI_8 fI_8 kI_9 fI_9
 clear HA HR HI
 revert GR GI GA;intro HR HI HA
 go_wp2_with fail
 have hqi:=jq7 HI.o
 refine (kz1 E b s7 _ HA.o.1 _ {flat0 with kind:=9,name:=n,times:=t3.n,of_:=oa.1,act:=oa.2,within:=sp} nil nil nil HI.o (by omega) rfl rfl).mono ?_
 rw [H8.o]
 rintro e w8 ⟨rfl,⟨sc,hI,hO⟩,hA⟩
 have GR:Hid (I0 W w8):=hA.2.blk HR.o (by omega)
 have GRC:Hid (w8.ownsRow (w1.heap.size+1) 59 2 sc c.1.length (c.1.flatMap cval)):=own_base hO (by omega)
 have GA:=hdd (HA.o.ptr hA (by omega))
 have hs8:w1.heap.size<w8.heap.size:=jq7 hI
 have GI:Hid (IB w1.heap.size {flat0 with kind:=9,name:=n,times:=t3.n,of_:=oa.1,act:=oa.2,within:=sp,conds:=c.1,by_:=c.2.1,til:=c.2.2} sc nil nil nil w8):=hI
 clear hA hI
 clear HA
 clear HR
 clear HI
 revert GR GRC GA GI;intro HR HRC HA HI
 go_wp2_with fail
 refine (cons_any E b s8 _ HA.o.1 _ {flat0 with kind:=9,name:=n,times:=t3.n,of_:=oa.1,act:=oa.2,within:=sp,conds:=c.1,by_:=c.2.1,til:=c.2.2} sc nil nil nil HI.o (by omega) ⟨rfl,rfl,rfl,rfl⟩).mono ?_
 rw [H9.o]
 rintro e w9 ⟨rfl,hI,hA⟩
 have GR:Hid (I0 W w9):=hA.2.blk HR.o (by omega)
 have GRC:=hdd (jx5 HRC.o hA.2 (fun k hk _ e=>by omega))
 have GA:=hdd (HA.o.ptr hA (by omega))
 have hs9:w1.heap.size<w9.heap.size:=jq7 hI
 have GI:Hid (IB w1.heap.size {flat0 with kind:=9,name:=n,times:=t3.n,of_:=oa.1,act:=oa.2,within:=sp,conds:=c.1,by_:=c.2.1,til:=c.2.2,num:=pq.1.num,unit:=pq.1.unit,sum:=pq.1.sum,to_:=pq.1.to_,fin:=pq.2} sc nil nil nil w9):=hI
 clear hA hI
 clear HA
 clear HR
 clear HI
 revert GR GA GI;intro HR HA HI
 clear HRC
 have HRC:=GRC;clear GRC
 go_wp2_with fail
 refine (expect1 E b s9 [59] _ _ (by simp) HA.o.1).mono ?_
 rw [H10.o]
 rintro e w10 ⟨rfl,hA⟩
 have GR:Hid (I0 W w10):=hA.2.blk HR.o (by omega)
 have GI:Hid (IB w1.heap.size {flat0 with kind:=9,name:=n,times:=t3.n,of_:=oa.1,act:=oa.2,within:=sp,conds:=c.1,by_:=c.2.1,til:=c.2.2,num:=pq.1.num,unit:=pq.1.unit,sum:=pq.1.sum,to_:=pq.1.to_,fin:=pq.2} sc nil nil nil w10):=hA.2.blk HI.o (by omega)
 have GRC:=hdd (jx5 HRC.o hA.2 (fun k hk _ e=>by omega))
 have GA:=hdd (HA.o.trans hA)
 have hs10:W.heap.size<w10.heap.size:=by have:=hA.2.size;omega
 clear hA
 clear HA HR HI
 revert GR GI GA;intro HR HI HA
 clear HRC
 have HRC:=GRC;clear GRC
 obtain ⟨w99,hw99,hA99,hl99,ho99⟩:=item_end (g:=flat0) (a1:=nil) (a2:=nil) (a3:=nil) (a4:=nil) HR.o HA.o hbl {flat0 with kind:=9,name:=n,times:=t3.n,of_:=oa.1,act:=oa.2,within:=sp,conds:=c.1,by_:=c.2.1,til:=c.2.2,num:=pq.1.num,unit:=pq.1.unit,sum:=pq.1.sum,to_:=pq.1.to_,fin:=pq.2} sc nil nil nil
 have R99RC:=hdd (own_base (ho99 _ _ _ _ _ _ (by omega) HRC.o) (by omega:W.heap.size≤_))
 have HW99:=hdd hw99;clear hw99
 have HA99:=hdd hA99;clear hA99
 have HL99:=hdd hl99;clear hl99 ho99
 have hsl: ∃A n c,sc= .slice A n c:=(own_form R99RC.o).imp fun A h=>h.elim fun c h=>⟨_,c,h⟩
 have HSL:=hdd hsl;clear hsl
 have HI9:Hid (IB w1.heap.size {flat0 with kind:=9,name:=n,times:=t3.n,of_:=oa.1,act:=oa.2,within:=sp,conds:=c.1,by_:=c.2.1,til:=c.2.2,num:=pq.1.num,unit:=pq.1.unit,sum:=pq.1.sum,to_:=pq.1.to_,fin:=pq.2} sc nil nil nil _):=HI.o
 have HR9:Hid (I0 W _):=HR.o
 go_wp2_with (first|(refine wpList_load_mid rfl 57 _ rfl w1.heap.size 0 rfl (icells {flat0 with kind:=9,name:=n,times:=t3.n,of_:=oa.1,act:=oa.2,within:=sp,conds:=c.1,by_:=c.2.1,til:=c.2.2,num:=pq.1.num,unit:=pq.1.unit,sum:=pq.1.sum,to_:=pq.1.to_,fin:=pq.2} sc nil nil nil) _ HI9.o.range Tryd.underlying57 rfl (jx6 _ _ _ _ _) ?_)|(refine wpList_store_mid rfl 57 _ _ rfl W.heap.size 0 (icells {flat0 with kind:=9,name:=n,times:=t3.n,of_:=oa.1,act:=oa.2,within:=sp,conds:=c.1,by_:=c.2.1,til:=c.2.2,num:=pq.1.num,unit:=pq.1.unit,sum:=pq.1.sum,to_:=pq.1.to_,fin:=pq.2} sc nil nil nil).toArray rfl rfl (HR9.o.there' _ _ _ _ _) (jq6 _ _ _ _ _) (jv2 _ _ _ _ _ HSL.o ⟨_,_,_,rfl⟩ ⟨_,_,_,rfl⟩ ⟨_,_,_,rfl⟩) ?_;rw [HW99.o]))
 exact bodyPost_ret (v:= .agg (icells {flat0 with kind:=9,name:=n,times:=t3.n,of_:=oa.1,act:=oa.2,within:=sp,conds:=c.1,by_:=c.2.1,til:=c.2.2,num:=pq.1.num,unit:=pq.1.unit,sum:=pq.1.sum,to_:=pq.1.to_,fin:=pq.2} sc nil nil nil).toArray) (jq8 Tryd.results88 rfl HL99.o) rfl ⟨⟨sc,nil,nil,rfl,⟨R99RC.o,World.ownsRow_nil _ _ _ _,World.ownsRow_nil _ _ _ _⟩⟩,HA99.o⟩
theorem duty_p3 (E:Env) (b:Nat) (s:St) (W:World) (h:PW E b s W) (n:Bytes) (s1:St) (oa:Bytes×Bytes) (s2:St) (s3:St) (u4:Unit) (s4:St) (sp:Span) (s5:St) (s6:St) (gr:Span) (s7:St) (c:List Named×Bytes×Bytes) (s8:St) (pq:Price×Bool) (s9:St) (u10:Unit) (s10:St) (h1:name s=(n,s1)) (h2:bearer s1=(oa,s2)) (h3:opt 2 s2=(none,s3)) (h4:expect [[119,105,116,104,105,110]] s3=(u4,s4)) (h5:span s4=(sp,s5)) (h6:acc [103,114,97,99,101] s5=(true,s6)) (h7:span s6=(gr,s7)) (h8:circ s7=(c,s8)) (h9:cons s8=(pq,s9)) (h10:expect [[59]] s9=(u10,s10)):
  Calls Tryd.prog 88 #[.pointer (some ⟨b,0,none⟩)] W fun e w'=>(∃sc sd sn,e= .returned (.agg (icells {flat0 with kind:=9,name:=n,times:=1,of_:=oa.1,act:=oa.2,within:=sp,grace:=gr,conds:=c.1,by_:=c.2.1,til:=c.2.2,num:=pq.1.num,unit:=pq.1.unit,sum:=pq.1.sum,to_:=pq.1.to_,fin:=pq.2} sc sd sn nil).toArray)∧FlatOK W.heap.size {flat0 with kind:=9,name:=n,times:=1,of_:=oa.1,act:=oa.2,within:=sp,grace:=gr,conds:=c.1,by_:=c.2.1,til:=c.2.2,num:=pq.1.num,unit:=pq.1.unit,sum:=pq.1.sum,to_:=pq.1.to_,fin:=pq.2} sc sd sn w')∧After E b s10 W w':=by
 have hbl:=h.2.2.1
 have HP:=hdd h;clear h
 have H1:=hdd h1;clear h1
 have H2:=hdd h2;clear h2
 have H3:=hdd h3;clear h3
 have H4:=hdd h4;clear h4
 have H5:=hdd h5;clear h5
 have H6:=hdd h6;clear h6
 have H7:=hdd h7;clear h7
 have H8:=hdd h8;clear h8
 have H9:=hdd h9;clear h9
 have H10:=hdd h10;clear h10
 go_enter Tryd.func88,Tryd.ntmps88
 go_wp2_with fail
 refine (name_any E b s _ ((After.start HP.o).alloc _).1).mono ?_
 rw [H1.o]
 rintro e w1 ⟨rfl,hA⟩
 have GR:Hid (I0 W w1):=hA.2.blk (jq5 (by simp)) (by omega)
 have GA:=hdd (((After.start HP.o).alloc _).trans hA)
 have hs1:W.heap.size<w1.heap.size:=by have:=hA.2.size;simp only [World.size_alloc] at this;omega
 clear hA
 revert GR GA;intro HR HA
 go_wp2_with (first|(refine wpList_build rfl 57 _ rfl #[(0,.int .i64 9),(1,.string ⟨n.toArray⟩),(6,.int .i64 1)] ?_ _ (build_duty n _) ?_;(simp [Act.eval]))|(refine jq4 rfl 57 _ _ rfl rfl (icells {flat0 with kind:=9,name:=n,times:=1} nil nil nil nil).toArray rfl (jq6 _ _ _ _ _) (ic1 ..) (by rfl) ?_))
 refine (kq7 E b s1 _ (HA.o.alloc _).1 _ {flat0 with kind:=9,name:=n,times:=1} nil nil nil nil (jq5 (by simp)) (by omega)).mono ?_
 rw [H2.o]
 rintro e w2 ⟨rfl,hI,hA⟩
 have GR:Hid (I0 W w2):=hA.2.blk (jq9 HR.o _) (by omega)
 have GA:=hdd ((HA.o.alloc _).ptr hA (by omega))
 have hs2:w1.heap.size<w2.heap.size:=jq7 hI
 have GI:Hid (I4 w1.heap.size {flat0 with kind:=9,name:=n,times:=1,of_:=oa.1,act:=oa.2} w2):=hI
 clear hA hI
 clear HA
 clear HR
 revert GR GA GI;intro HR HA HI
 go_wp2_with fail
 refine (jz7 E b s2 2 _ HA.o.1).mono ?_
 rw [(jj5 H3.o).1]
 rintro e w3 ⟨rfl,m3,rfl⟩
 obtain rfl:=(jj5 H3.o).2
 go_wp2_with fail
 refine (expect1 E b s3 [119,105,116,104,105,110] _ _ (by simp) (HA.o.drewN m3).1).mono ?_
 rw [H4.o]
 rintro e w4 ⟨rfl,hA⟩
 have GR:Hid (I0 W w4):=hA.2.blk (jx2 HR.o m3) (by omega)
 have GI:Hid (I4 w1.heap.size {flat0 with kind:=9,name:=n,times:=1,of_:=oa.1,act:=oa.2} w4):=hA.2.blk (jx2 HI.o m3) (by omega)
 have GA:=hdd ((HA.o.drewN m3).trans hA)
 have hs4:W.heap.size<w4.heap.size:=by have:=hA.2.size;simp only [kq6] at this;omega
 clear hA
 clear HA HR HI
 revert GR GI GA;intro HR HI HA
 go_wp2_with fail
 refine (span_any E b s4 _ HA.o.1).mono ?_
 rw [H5.o]
 rintro e w5 ⟨rfl,hA⟩
 have GR:Hid (I0 W w5):=hA.2.blk HR.o (by omega)
 have GI:Hid (I4 w1.heap.size {flat0 with kind:=9,name:=n,times:=1,of_:=oa.1,act:=oa.2} w5):=hA.2.blk HI.o (by omega)
 have GA:=hdd (HA.o.trans hA)
 have hs5:W.heap.size<w5.heap.size:=by have:=hA.2.size;omega
 clear hA
 clear HA HR HI
 revert GR GI GA;intro HR HI HA
 have kI_7:w5.cell? ⟨w1.heap.size,7,none⟩=some (.int .i64 0):=jq0 HI.o 7
 have fI_7:w5.frozen? ⟨w1.heap.size,7,none⟩=false:=jq1 HI.o 7
 have kI_8:w5.cell? ⟨w1.heap.size,8,none⟩=some (.bool false):=jq0 HI.o 8
 have fI_8:w5.frozen? ⟨w1.heap.size,8,none⟩=false:=jq1 HI.o 8
 have kI_9:w5.cell? ⟨w1.heap.size,9,none⟩=some (.string ⟨#[]⟩):=jq0 HI.o 9
 have fI_9:w5.frozen? ⟨w1.heap.size,9,none⟩=false:=jq1 HI.o 9
 go_wp2_with fail
 refine (jx0 E b s5 [103,114,97,99,101] _ (((HA.o.set (i:=7) (by omega) (by omega) (.int .i64 (sp.days:Int))).set (i:=8) (by omega) (by omega) (.bool sp.bus)).set (i:=9) (by omega) (by omega) (.string ⟨sp.name.toArray⟩)).1).mono ?_
 rw [H6.o]
 rintro e w6 ⟨rfl,hA⟩
 have GR:Hid (I0 W w6):=hA.2.blk (jq2 (jq2 (jq2 HR.o (by omega) (.int .i64 (sp.days:Int))) (by omega) (.bool sp.bus)) (by omega) (.string ⟨sp.name.toArray⟩)) (by omega)
 have GI:Hid (I4 w1.heap.size {flat0 with kind:=9,name:=n,times:=1,of_:=oa.1,act:=oa.2,within:=sp} w6):=hA.2.blk (IB.set_within HI.o sp) (by omega)
 have GA:=hdd ((((HA.o.set (i:=7) (by omega) (by omega) (.int .i64 (sp.days:Int))).set (i:=8) (by omega) (by omega) (.bool sp.bus)).set (i:=9) (by omega) (by omega) (.string ⟨sp.name.toArray⟩)).trans hA)
 have hs6:W.heap.size<w6.heap.size:=by have:=hA.2.size;simp only [World.size_setCell] at this;omega
 clear hA
 try clear kI_7 fI_7 kI_8 fI_8 kI_9 fI_9
 clear HA HR HI
 revert GR GI GA;intro HR HI HA
 go_wp2_with fail
 refine (span_any E b s6 _ HA.o.1).mono ?_
 rw [H7.o]
 rintro e w7 ⟨rfl,hA⟩
 have GR:Hid (I0 W w7):=hA.2.blk HR.o (by omega)
 have GI:Hid (I4 w1.heap.size {flat0 with kind:=9,name:=n,times:=1,of_:=oa.1,act:=oa.2,within:=sp} w7):=hA.2.blk HI.o (by omega)
 have GA:=hdd (HA.o.trans hA)
 have hs7:W.heap.size<w7.heap.size:=by have:=hA.2.size;omega
 clear hA
 clear HA HR HI
 revert GR GI GA;intro HR HI HA
 have kI_10:w7.cell? ⟨w1.heap.size,10,none⟩=some (.int .i64 0):=jq0 HI.o 10
 have fI_10:w7.frozen? ⟨w1.heap.size,10,none⟩=false:=jq1 HI.o 10
 have kI_11:w7.cell? ⟨w1.heap.size,11,none⟩=some (.bool false):=jq0 HI.o 11
 have fI_11:w7.frozen? ⟨w1.heap.size,11,none⟩=false:=jq1 HI.o 11
 have kI_12:w7.cell? ⟨w1.heap.size,12,none⟩=some (.string ⟨#[]⟩):=jq0 HI.o 12
 have fI_12:w7.frozen? ⟨w1.heap.size,12,none⟩=false:=jq1 HI.o 12
 go_wp2_with fail
 have hqi:=jq7 HI.o
 refine (kz1 E b s7 _ (((HA.o.set (i:=10) (by omega) (by omega) (.int .i64 (gr.days:Int))).set (i:=11) (by omega) (by omega) (.bool gr.bus)).set (i:=12) (by omega) (by omega) (.string ⟨gr.name.toArray⟩)).1 _ {flat0 with kind:=9,name:=n,times:=1,of_:=oa.1,act:=oa.2,within:=sp,grace:=gr} nil nil nil (IB.set_grace HI.o gr) (by omega) rfl rfl).mono ?_
 rw [H8.o]
 rintro e w8 ⟨rfl,⟨sc,hI,hO⟩,hA⟩
 have GR:Hid (I0 W w8):=hA.2.blk (jq2 (jq2 (jq2 HR.o (by omega) (.int .i64 (gr.days:Int))) (by omega) (.bool gr.bus)) (by omega) (.string ⟨gr.name.toArray⟩)) (by omega)
 have GRC:Hid (w8.ownsRow (w1.heap.size+1) 59 2 sc c.1.length (c.1.flatMap cval)):=own_base hO (by simp only [World.size_setCell];omega)
 have GA:=hdd ((((HA.o.set (i:=10) (by omega) (by omega) (.int .i64 (gr.days:Int))).set (i:=11) (by omega) (by omega) (.bool gr.bus)).set (i:=12) (by omega) (by omega) (.string ⟨gr.name.toArray⟩)).ptr hA (by omega))
 have hs8:w1.heap.size<w8.heap.size:=jq7 hI
 have GI:Hid (IB w1.heap.size {flat0 with kind:=9,name:=n,times:=1,of_:=oa.1,act:=oa.2,within:=sp,grace:=gr,conds:=c.1,by_:=c.2.1,til:=c.2.2} sc nil nil nil w8):=hI
 clear hA hI
 try clear kI_10 fI_10 kI_11 fI_11 kI_12 fI_12
 clear HA
 clear HR
 clear HI
 revert GR GRC GA GI;intro HR HRC HA HI
 go_wp2_with fail
 refine (cons_any E b s8 _ HA.o.1 _ {flat0 with kind:=9,name:=n,times:=1,of_:=oa.1,act:=oa.2,within:=sp,grace:=gr,conds:=c.1,by_:=c.2.1,til:=c.2.2} sc nil nil nil HI.o (by omega) ⟨rfl,rfl,rfl,rfl⟩).mono ?_
 rw [H9.o]
 rintro e w9 ⟨rfl,hI,hA⟩
 have GR:Hid (I0 W w9):=hA.2.blk HR.o (by omega)
 have GRC:=hdd (jx5 HRC.o hA.2 (fun k hk _ e=>by omega))
 have GA:=hdd (HA.o.ptr hA (by omega))
 have hs9:w1.heap.size<w9.heap.size:=jq7 hI
 have GI:Hid (IB w1.heap.size {flat0 with kind:=9,name:=n,times:=1,of_:=oa.1,act:=oa.2,within:=sp,grace:=gr,conds:=c.1,by_:=c.2.1,til:=c.2.2,num:=pq.1.num,unit:=pq.1.unit,sum:=pq.1.sum,to_:=pq.1.to_,fin:=pq.2} sc nil nil nil w9):=hI
 clear hA hI
 clear HA
 clear HR
 clear HI
 revert GR GA GI;intro HR HA HI
 clear HRC
 have HRC:=GRC;clear GRC
 go_wp2_with fail
 refine (expect1 E b s9 [59] _ _ (by simp) HA.o.1).mono ?_
 rw [H10.o]
 rintro e w10 ⟨rfl,hA⟩
 have GR:Hid (I0 W w10):=hA.2.blk HR.o (by omega)
 have GI:Hid (IB w1.heap.size {flat0 with kind:=9,name:=n,times:=1,of_:=oa.1,act:=oa.2,within:=sp,grace:=gr,conds:=c.1,by_:=c.2.1,til:=c.2.2,num:=pq.1.num,unit:=pq.1.unit,sum:=pq.1.sum,to_:=pq.1.to_,fin:=pq.2} sc nil nil nil w10):=hA.2.blk HI.o (by omega)
 have GRC:=hdd (jx5 HRC.o hA.2 (fun k hk _ e=>by omega))
 have GA:=hdd (HA.o.trans hA)
 have hs10:W.heap.size<w10.heap.size:=by have:=hA.2.size;omega
 clear hA
 clear HA HR HI
 revert GR GI GA;intro HR HI HA
 clear HRC
 have HRC:=GRC;clear GRC
 obtain ⟨w99,hw99,hA99,hl99,ho99⟩:=item_end (g:=flat0) (a1:=nil) (a2:=nil) (a3:=nil) (a4:=nil) HR.o HA.o hbl {flat0 with kind:=9,name:=n,times:=1,of_:=oa.1,act:=oa.2,within:=sp,grace:=gr,conds:=c.1,by_:=c.2.1,til:=c.2.2,num:=pq.1.num,unit:=pq.1.unit,sum:=pq.1.sum,to_:=pq.1.to_,fin:=pq.2} sc nil nil nil
 have R99RC:=hdd (own_base (ho99 _ _ _ _ _ _ (by omega) HRC.o) (by omega:W.heap.size≤_))
 have HW99:=hdd hw99;clear hw99
 have HA99:=hdd hA99;clear hA99
 have HL99:=hdd hl99;clear hl99 ho99
 have hsl: ∃A n c,sc= .slice A n c:=(own_form R99RC.o).imp fun A h=>h.elim fun c h=>⟨_,c,h⟩
 have HSL:=hdd hsl;clear hsl
 have HI9:Hid (IB w1.heap.size {flat0 with kind:=9,name:=n,times:=1,of_:=oa.1,act:=oa.2,within:=sp,grace:=gr,conds:=c.1,by_:=c.2.1,til:=c.2.2,num:=pq.1.num,unit:=pq.1.unit,sum:=pq.1.sum,to_:=pq.1.to_,fin:=pq.2} sc nil nil nil _):=HI.o
 have HR9:Hid (I0 W _):=HR.o
 go_wp2_with (first|(refine wpList_load_mid rfl 57 _ rfl w1.heap.size 0 rfl (icells {flat0 with kind:=9,name:=n,times:=1,of_:=oa.1,act:=oa.2,within:=sp,grace:=gr,conds:=c.1,by_:=c.2.1,til:=c.2.2,num:=pq.1.num,unit:=pq.1.unit,sum:=pq.1.sum,to_:=pq.1.to_,fin:=pq.2} sc nil nil nil) _ HI9.o.range Tryd.underlying57 rfl (jx6 _ _ _ _ _) ?_)|(refine wpList_store_mid rfl 57 _ _ rfl W.heap.size 0 (icells {flat0 with kind:=9,name:=n,times:=1,of_:=oa.1,act:=oa.2,within:=sp,grace:=gr,conds:=c.1,by_:=c.2.1,til:=c.2.2,num:=pq.1.num,unit:=pq.1.unit,sum:=pq.1.sum,to_:=pq.1.to_,fin:=pq.2} sc nil nil nil).toArray rfl rfl (HR9.o.there' _ _ _ _ _) (jq6 _ _ _ _ _) (jv2 _ _ _ _ _ HSL.o ⟨_,_,_,rfl⟩ ⟨_,_,_,rfl⟩ ⟨_,_,_,rfl⟩) ?_;rw [HW99.o]))
 exact bodyPost_ret (v:= .agg (icells {flat0 with kind:=9,name:=n,times:=1,of_:=oa.1,act:=oa.2,within:=sp,grace:=gr,conds:=c.1,by_:=c.2.1,til:=c.2.2,num:=pq.1.num,unit:=pq.1.unit,sum:=pq.1.sum,to_:=pq.1.to_,fin:=pq.2} sc nil nil nil).toArray) (jq8 Tryd.results88 rfl HL99.o) rfl ⟨⟨sc,nil,nil,rfl,⟨R99RC.o,World.ownsRow_nil _ _ _ _,World.ownsRow_nil _ _ _ _⟩⟩,HA99.o⟩
theorem duty_p4 (E:Env) (b:Nat) (s:St) (W:World) (h:PW E b s W) (n:Bytes) (s1:St) (oa:Bytes×Bytes) (s2:St) (s3:St) (u4:Unit) (s4:St) (sp:Span) (s5:St) (s6:St) (c:List Named×Bytes×Bytes) (s7:St) (pq:Price×Bool) (s8:St) (u9:Unit) (s9:St) (h1:name s=(n,s1)) (h2:bearer s1=(oa,s2)) (h3:opt 2 s2=(none,s3)) (h4:expect [[119,105,116,104,105,110]] s3=(u4,s4)) (h5:span s4=(sp,s5)) (h6:acc [103,114,97,99,101] s5=(false,s6)) (h7:circ s6=(c,s7)) (h8:cons s7=(pq,s8)) (h9:expect [[59]] s8=(u9,s9)):
  Calls Tryd.prog 88 #[.pointer (some ⟨b,0,none⟩)] W fun e w'=>(∃sc sd sn,e= .returned (.agg (icells {flat0 with kind:=9,name:=n,times:=1,of_:=oa.1,act:=oa.2,within:=sp,conds:=c.1,by_:=c.2.1,til:=c.2.2,num:=pq.1.num,unit:=pq.1.unit,sum:=pq.1.sum,to_:=pq.1.to_,fin:=pq.2} sc sd sn nil).toArray)∧FlatOK W.heap.size {flat0 with kind:=9,name:=n,times:=1,of_:=oa.1,act:=oa.2,within:=sp,conds:=c.1,by_:=c.2.1,til:=c.2.2,num:=pq.1.num,unit:=pq.1.unit,sum:=pq.1.sum,to_:=pq.1.to_,fin:=pq.2} sc sd sn w')∧After E b s9 W w':=by
 have hbl:=h.2.2.1
 have HP:=hdd h;clear h
 have H1:=hdd h1;clear h1
 have H2:=hdd h2;clear h2
 have H3:=hdd h3;clear h3
 have H4:=hdd h4;clear h4
 have H5:=hdd h5;clear h5
 have H6:=hdd h6;clear h6
 have H7:=hdd h7;clear h7
 have H8:=hdd h8;clear h8
 have H9:=hdd h9;clear h9
 go_enter Tryd.func88,Tryd.ntmps88
 go_wp2_with fail
 refine (name_any E b s _ ((After.start HP.o).alloc _).1).mono ?_
 rw [H1.o]
 rintro e w1 ⟨rfl,hA⟩
 have GR:Hid (I0 W w1):=hA.2.blk (jq5 (by simp)) (by omega)
 have GA:=hdd (((After.start HP.o).alloc _).trans hA)
 have hs1:W.heap.size<w1.heap.size:=by have:=hA.2.size;simp only [World.size_alloc] at this;omega
 clear hA
 revert GR GA;intro HR HA
 go_wp2_with (first|(refine wpList_build rfl 57 _ rfl #[(0,.int .i64 9),(1,.string ⟨n.toArray⟩),(6,.int .i64 1)] ?_ _ (build_duty n _) ?_;(simp [Act.eval]))|(refine jq4 rfl 57 _ _ rfl rfl (icells {flat0 with kind:=9,name:=n,times:=1} nil nil nil nil).toArray rfl (jq6 _ _ _ _ _) (ic1 ..) (by rfl) ?_))
 refine (kq7 E b s1 _ (HA.o.alloc _).1 _ {flat0 with kind:=9,name:=n,times:=1} nil nil nil nil (jq5 (by simp)) (by omega)).mono ?_
 rw [H2.o]
 rintro e w2 ⟨rfl,hI,hA⟩
 have GR:Hid (I0 W w2):=hA.2.blk (jq9 HR.o _) (by omega)
 have GA:=hdd ((HA.o.alloc _).ptr hA (by omega))
 have hs2:w1.heap.size<w2.heap.size:=jq7 hI
 have GI:Hid (I4 w1.heap.size {flat0 with kind:=9,name:=n,times:=1,of_:=oa.1,act:=oa.2} w2):=hI
 clear hA hI
 clear HA
 clear HR
 revert GR GA GI;intro HR HA HI
 go_wp2_with fail
 refine (jz7 E b s2 2 _ HA.o.1).mono ?_
 rw [(jj5 H3.o).1]
 rintro e w3 ⟨rfl,m3,rfl⟩
 obtain rfl:=(jj5 H3.o).2
 go_wp2_with fail
 refine (expect1 E b s3 [119,105,116,104,105,110] _ _ (by simp) (HA.o.drewN m3).1).mono ?_
 rw [H4.o]
 rintro e w4 ⟨rfl,hA⟩
 have GR:Hid (I0 W w4):=hA.2.blk (jx2 HR.o m3) (by omega)
 have GI:Hid (I4 w1.heap.size {flat0 with kind:=9,name:=n,times:=1,of_:=oa.1,act:=oa.2} w4):=hA.2.blk (jx2 HI.o m3) (by omega)
 have GA:=hdd ((HA.o.drewN m3).trans hA)
 have hs4:W.heap.size<w4.heap.size:=by have:=hA.2.size;simp only [kq6] at this;omega
 clear hA
 clear HA HR HI
 revert GR GI GA;intro HR HI HA
 go_wp2_with fail
 refine (span_any E b s4 _ HA.o.1).mono ?_
 rw [H5.o]
 rintro e w5 ⟨rfl,hA⟩
 have GR:Hid (I0 W w5):=hA.2.blk HR.o (by omega)
 have GI:Hid (I4 w1.heap.size {flat0 with kind:=9,name:=n,times:=1,of_:=oa.1,act:=oa.2} w5):=hA.2.blk HI.o (by omega)
 have GA:=hdd (HA.o.trans hA)
 have hs5:W.heap.size<w5.heap.size:=by have:=hA.2.size;omega
 clear hA
 clear HA HR HI
 revert GR GI GA;intro HR HI HA
 have kI_7:w5.cell? ⟨w1.heap.size,7,none⟩=some (.int .i64 0):=jq0 HI.o 7
 have fI_7:w5.frozen? ⟨w1.heap.size,7,none⟩=false:=jq1 HI.o 7
 have kI_8:w5.cell? ⟨w1.heap.size,8,none⟩=some (.bool false):=jq0 HI.o 8
 have fI_8:w5.frozen? ⟨w1.heap.size,8,none⟩=false:=jq1 HI.o 8
 have kI_9:w5.cell? ⟨w1.heap.size,9,none⟩=some (.string ⟨#[]⟩):=jq0 HI.o 9
 have fI_9:w5.frozen? ⟨w1.heap.size,9,none⟩=false:=jq1 HI.o 9
 go_wp2_with fail
 refine (jx0 E b s5 [103,114,97,99,101] _ (((HA.o.set (i:=7) (by omega) (by omega) (.int .i64 (sp.days:Int))).set (i:=8) (by omega) (by omega) (.bool sp.bus)).set (i:=9) (by omega) (by omega) (.string ⟨sp.name.toArray⟩)).1).mono ?_
 rw [H6.o]
 rintro e w6 ⟨rfl,hA⟩
 have GR:Hid (I0 W w6):=hA.2.blk (jq2 (jq2 (jq2 HR.o (by omega) (.int .i64 (sp.days:Int))) (by omega) (.bool sp.bus)) (by omega) (.string ⟨sp.name.toArray⟩)) (by omega)
 have GI:Hid (I4 w1.heap.size {flat0 with kind:=9,name:=n,times:=1,of_:=oa.1,act:=oa.2,within:=sp} w6):=hA.2.blk (IB.set_within HI.o sp) (by omega)
 have GA:=hdd ((((HA.o.set (i:=7) (by omega) (by omega) (.int .i64 (sp.days:Int))).set (i:=8) (by omega) (by omega) (.bool sp.bus)).set (i:=9) (by omega) (by omega) (.string ⟨sp.name.toArray⟩)).trans hA)
 have hs6:W.heap.size<w6.heap.size:=by have:=hA.2.size;simp only [World.size_setCell] at this;omega
 clear hA
 try clear kI_7 fI_7 kI_8 fI_8 kI_9 fI_9
 clear HA HR HI
 revert GR GI GA;intro HR HI HA
 go_wp2_with fail
 have hqi:=jq7 HI.o
 refine (kz1 E b s6 _ HA.o.1 _ {flat0 with kind:=9,name:=n,times:=1,of_:=oa.1,act:=oa.2,within:=sp} nil nil nil HI.o (by omega) rfl rfl).mono ?_
 rw [H7.o]
 rintro e w7 ⟨rfl,⟨sc,hI,hO⟩,hA⟩
 have GR:Hid (I0 W w7):=hA.2.blk HR.o (by omega)
 have GRC:Hid (w7.ownsRow (w1.heap.size+1) 59 2 sc c.1.length (c.1.flatMap cval)):=own_base hO (by omega)
 have GA:=hdd (HA.o.ptr hA (by omega))
 have hs7:w1.heap.size<w7.heap.size:=jq7 hI
 have GI:Hid (IB w1.heap.size {flat0 with kind:=9,name:=n,times:=1,of_:=oa.1,act:=oa.2,within:=sp,conds:=c.1,by_:=c.2.1,til:=c.2.2} sc nil nil nil w7):=hI
 clear hA hI
 clear HA
 clear HR
 clear HI
 revert GR GRC GA GI;intro HR HRC HA HI
 go_wp2_with fail
 refine (cons_any E b s7 _ HA.o.1 _ {flat0 with kind:=9,name:=n,times:=1,of_:=oa.1,act:=oa.2,within:=sp,conds:=c.1,by_:=c.2.1,til:=c.2.2} sc nil nil nil HI.o (by omega) ⟨rfl,rfl,rfl,rfl⟩).mono ?_
 rw [H8.o]
 rintro e w8 ⟨rfl,hI,hA⟩
 have GR:Hid (I0 W w8):=hA.2.blk HR.o (by omega)
 have GRC:=hdd (jx5 HRC.o hA.2 (fun k hk _ e=>by omega))
 have GA:=hdd (HA.o.ptr hA (by omega))
 have hs8:w1.heap.size<w8.heap.size:=jq7 hI
 have GI:Hid (IB w1.heap.size {flat0 with kind:=9,name:=n,times:=1,of_:=oa.1,act:=oa.2,within:=sp,conds:=c.1,by_:=c.2.1,til:=c.2.2,num:=pq.1.num,unit:=pq.1.unit,sum:=pq.1.sum,to_:=pq.1.to_,fin:=pq.2} sc nil nil nil w8):=hI
 clear hA hI
 clear HA
 clear HR
 clear HI
 revert GR GA GI;intro HR HA HI
 clear HRC
 have HRC:=GRC;clear GRC
 go_wp2_with fail
 refine (expect1 E b s8 [59] _ _ (by simp) HA.o.1).mono ?_
 rw [H9.o]
 rintro e w9 ⟨rfl,hA⟩
 have GR:Hid (I0 W w9):=hA.2.blk HR.o (by omega)
 have GI:Hid (IB w1.heap.size {flat0 with kind:=9,name:=n,times:=1,of_:=oa.1,act:=oa.2,within:=sp,conds:=c.1,by_:=c.2.1,til:=c.2.2,num:=pq.1.num,unit:=pq.1.unit,sum:=pq.1.sum,to_:=pq.1.to_,fin:=pq.2} sc nil nil nil w9):=hA.2.blk HI.o (by omega)
 have GRC:=hdd (jx5 HRC.o hA.2 (fun k hk _ e=>by omega))
 have GA:=hdd (HA.o.trans hA)
 have hs9:W.heap.size<w9.heap.size:=by have:=hA.2.size;omega
 clear hA
 clear HA HR HI
 revert GR GI GA;intro HR HI HA
 clear HRC
 have HRC:=GRC;clear GRC
 obtain ⟨w99,hw99,hA99,hl99,ho99⟩:=item_end (g:=flat0) (a1:=nil) (a2:=nil) (a3:=nil) (a4:=nil) HR.o HA.o hbl {flat0 with kind:=9,name:=n,times:=1,of_:=oa.1,act:=oa.2,within:=sp,conds:=c.1,by_:=c.2.1,til:=c.2.2,num:=pq.1.num,unit:=pq.1.unit,sum:=pq.1.sum,to_:=pq.1.to_,fin:=pq.2} sc nil nil nil
 have R99RC:=hdd (own_base (ho99 _ _ _ _ _ _ (by omega) HRC.o) (by omega:W.heap.size≤_))
 have HW99:=hdd hw99;clear hw99
 have HA99:=hdd hA99;clear hA99
 have HL99:=hdd hl99;clear hl99 ho99
 have hsl: ∃A n c,sc= .slice A n c:=(own_form R99RC.o).imp fun A h=>h.elim fun c h=>⟨_,c,h⟩
 have HSL:=hdd hsl;clear hsl
 have HI9:Hid (IB w1.heap.size {flat0 with kind:=9,name:=n,times:=1,of_:=oa.1,act:=oa.2,within:=sp,conds:=c.1,by_:=c.2.1,til:=c.2.2,num:=pq.1.num,unit:=pq.1.unit,sum:=pq.1.sum,to_:=pq.1.to_,fin:=pq.2} sc nil nil nil _):=HI.o
 have HR9:Hid (I0 W _):=HR.o
 go_wp2_with (first|(refine wpList_load_mid rfl 57 _ rfl w1.heap.size 0 rfl (icells {flat0 with kind:=9,name:=n,times:=1,of_:=oa.1,act:=oa.2,within:=sp,conds:=c.1,by_:=c.2.1,til:=c.2.2,num:=pq.1.num,unit:=pq.1.unit,sum:=pq.1.sum,to_:=pq.1.to_,fin:=pq.2} sc nil nil nil) _ HI9.o.range Tryd.underlying57 rfl (jx6 _ _ _ _ _) ?_)|(refine wpList_store_mid rfl 57 _ _ rfl W.heap.size 0 (icells {flat0 with kind:=9,name:=n,times:=1,of_:=oa.1,act:=oa.2,within:=sp,conds:=c.1,by_:=c.2.1,til:=c.2.2,num:=pq.1.num,unit:=pq.1.unit,sum:=pq.1.sum,to_:=pq.1.to_,fin:=pq.2} sc nil nil nil).toArray rfl rfl (HR9.o.there' _ _ _ _ _) (jq6 _ _ _ _ _) (jv2 _ _ _ _ _ HSL.o ⟨_,_,_,rfl⟩ ⟨_,_,_,rfl⟩ ⟨_,_,_,rfl⟩) ?_;rw [HW99.o]))
 exact bodyPost_ret (v:= .agg (icells {flat0 with kind:=9,name:=n,times:=1,of_:=oa.1,act:=oa.2,within:=sp,conds:=c.1,by_:=c.2.1,til:=c.2.2,num:=pq.1.num,unit:=pq.1.unit,sum:=pq.1.sum,to_:=pq.1.to_,fin:=pq.2} sc nil nil nil).toArray) (jq8 Tryd.results88 rfl HL99.o) rfl ⟨⟨sc,nil,nil,rfl,⟨R99RC.o,World.ownsRow_nil _ _ _ _,World.ownsRow_nil _ _ _ _⟩⟩,HA99.o⟩
theorem duty_any (E:Env) (b:Nat) (s:St) (W:World) (h:PW E b s W):
  Calls Tryd.prog 88 #[.pointer (some ⟨b,0,none⟩)] W fun e w'=>(∃sc sd sn,e= .returned (.agg (icells (duty s).1 sc sd sn nil).toArray)∧FlatOK W.heap.size (duty s).1 sc sd sn w')∧After E b (duty s).2 W w':=by
 obtain ⟨n,s1,h1⟩: ∃x s',name s=(x,s'):=⟨_,_,rfl⟩
 obtain ⟨oa,s2,h2⟩: ∃x s',bearer s1=(x,s'):=⟨_,_,rfl⟩
 obtain ⟨o3,s3,h3⟩: ∃x s',opt 2 s2=(x,s'):=⟨_,_,rfl⟩
 cases o3 with
 |some t3=>
  obtain ⟨u4,s4,h4⟩: ∃x s',expect [[116,105,109,101,115]] s3=(x,s'):=⟨_,_,rfl⟩
  obtain ⟨u5,s5,h5⟩: ∃x s',expect [[119,105,116,104,105,110]] s4=(x,s'):=⟨_,_,rfl⟩
  obtain ⟨sp,s6,h6⟩: ∃x s',span s5=(x,s'):=⟨_,_,rfl⟩
  obtain ⟨b7,s7,h7⟩: ∃x s',acc [103,114,97,99,101] s6=(x,s'):=⟨_,_,rfl⟩
  cases b7 with
  |true=>
   obtain ⟨gr,s8,h8⟩: ∃x s',span s7=(x,s'):=⟨_,_,rfl⟩
   obtain ⟨c,s9,h9⟩: ∃x s',circ s8=(x,s'):=⟨_,_,rfl⟩
   obtain ⟨pq,s10,h10⟩: ∃x s',cons s9=(x,s'):=⟨_,_,rfl⟩
   obtain ⟨u11,s11,h11⟩: ∃x s',expect [[59]] s10=(x,s'):=⟨_,_,rfl⟩
   have hp:duty s=({flat0 with kind:=9,name:=n,times:=t3.n,of_:=oa.1,act:=oa.2,within:=sp,grace:=gr,conds:=c.1,by_:=c.2.1,til:=c.2.2,num:=pq.1.num,unit:=pq.1.unit,sum:=pq.1.sum,to_:=pq.1.to_,fin:=pq.2},s11):=(jq3 h1).trans ((jq3 h2).trans ((jq3 h3).trans ((jx1 h4).trans ((jx1 h5).trans ((jq3 h6).trans ((jz1 h7).trans ((jq3 h8).trans ((jq3 h9).trans ((jq3 h10).trans ((jx1 h11).trans (rfl)))))))))))
   rw [hp]
   exact duty_p1 E b s W h n s1 oa s2 t3 s3 u4 s4 u5 s5 sp s6 s7 gr s8 c s9 pq s10 u11 s11 h1 h2 h3 h4 h5 h6 h7 h8 h9 h10 h11
  |false=>
   obtain ⟨c,s8,h8⟩: ∃x s',circ s7=(x,s'):=⟨_,_,rfl⟩
   obtain ⟨pq,s9,h9⟩: ∃x s',cons s8=(x,s'):=⟨_,_,rfl⟩
   obtain ⟨u10,s10,h10⟩: ∃x s',expect [[59]] s9=(x,s'):=⟨_,_,rfl⟩
   have hp:duty s=({flat0 with kind:=9,name:=n,times:=t3.n,of_:=oa.1,act:=oa.2,within:=sp,conds:=c.1,by_:=c.2.1,til:=c.2.2,num:=pq.1.num,unit:=pq.1.unit,sum:=pq.1.sum,to_:=pq.1.to_,fin:=pq.2},s10):=(jq3 h1).trans ((jq3 h2).trans ((jq3 h3).trans ((jx1 h4).trans ((jx1 h5).trans ((jq3 h6).trans ((jx9 h7).trans ((jq3 h8).trans ((jq3 h9).trans ((jx1 h10).trans (rfl))))))))))
   rw [hp]
   exact duty_p2 E b s W h n s1 oa s2 t3 s3 u4 s4 u5 s5 sp s6 s7 c s8 pq s9 u10 s10 h1 h2 h3 h4 h5 h6 h7 h8 h9 h10
 |none=>
  obtain ⟨u4,s4,h4⟩: ∃x s',expect [[119,105,116,104,105,110]] s3=(x,s'):=⟨_,_,rfl⟩
  obtain ⟨sp,s5,h5⟩: ∃x s',span s4=(x,s'):=⟨_,_,rfl⟩
  obtain ⟨b6,s6,h6⟩: ∃x s',acc [103,114,97,99,101] s5=(x,s'):=⟨_,_,rfl⟩
  cases b6 with
  |true=>
   obtain ⟨gr,s7,h7⟩: ∃x s',span s6=(x,s'):=⟨_,_,rfl⟩
   obtain ⟨c,s8,h8⟩: ∃x s',circ s7=(x,s'):=⟨_,_,rfl⟩
   obtain ⟨pq,s9,h9⟩: ∃x s',cons s8=(x,s'):=⟨_,_,rfl⟩
   obtain ⟨u10,s10,h10⟩: ∃x s',expect [[59]] s9=(x,s'):=⟨_,_,rfl⟩
   have hp:duty s=({flat0 with kind:=9,name:=n,times:=1,of_:=oa.1,act:=oa.2,within:=sp,grace:=gr,conds:=c.1,by_:=c.2.1,til:=c.2.2,num:=pq.1.num,unit:=pq.1.unit,sum:=pq.1.sum,to_:=pq.1.to_,fin:=pq.2},s10):=(jq3 h1).trans ((jq3 h2).trans ((jq3 h3).trans ((jx1 h4).trans ((jq3 h5).trans ((jz1 h6).trans ((jq3 h7).trans ((jq3 h8).trans ((jq3 h9).trans ((jx1 h10).trans (rfl))))))))))
   rw [hp]
   exact duty_p3 E b s W h n s1 oa s2 s3 u4 s4 sp s5 s6 gr s7 c s8 pq s9 u10 s10 h1 h2 h3 h4 h5 h6 h7 h8 h9 h10
  |false=>
   obtain ⟨c,s7,h7⟩: ∃x s',circ s6=(x,s'):=⟨_,_,rfl⟩
   obtain ⟨pq,s8,h8⟩: ∃x s',cons s7=(x,s'):=⟨_,_,rfl⟩
   obtain ⟨u9,s9,h9⟩: ∃x s',expect [[59]] s8=(x,s'):=⟨_,_,rfl⟩
   have hp:duty s=({flat0 with kind:=9,name:=n,times:=1,of_:=oa.1,act:=oa.2,within:=sp,conds:=c.1,by_:=c.2.1,til:=c.2.2,num:=pq.1.num,unit:=pq.1.unit,sum:=pq.1.sum,to_:=pq.1.to_,fin:=pq.2},s9):=(jq3 h1).trans ((jq3 h2).trans ((jq3 h3).trans ((jx1 h4).trans ((jq3 h5).trans ((jx9 h6).trans ((jq3 h7).trans ((jq3 h8).trans ((jx1 h9).trans (rfl)))))))))
   rw [hp]
   exact duty_p4 E b s W h n s1 oa s2 s3 u4 s4 sp s5 s6 c s7 pq s8 u9 s9 h1 h2 h3 h4 h5 h6 h7 h8 h9
theorem build_incl (o:Bytes) (w:World):(Instr.build 57 #[(0,.int .i64 14),(3,.string ⟨o.toArray⟩)]).run Tryd.prog w= .ok (.agg (icells {flat0 with kind:=14,of_:=o} nil nil nil nil).toArray) w:=by kernel_rfl
theorem incl_p1 (E:Env) (b:Nat) (s:St) (W:World) (h:PW E b s W) (o:Bytes) (s1:St) (u2:Unit) (s2:St) (n:Bytes) (s3:St) (l:List Bytes) (s4:St) (u5:Unit) (s5:St) (h1:name s=(o,s1)) (h2:expect [[97,115]] s1=(u2,s2)) (h3:name s2=(n,s3)) (h4:names s3=(l,s4)) (h5:expect [[59]] s4=(u5,s5)):
  Calls Tryd.prog 92 #[.pointer (some ⟨b,0,none⟩)] W fun e w'=>(∃sc sd sn,e= .returned (.agg (icells {flat0 with kind:=14,of_:=o,name:=n,names:=l} sc sd sn nil).toArray)∧FlatOK W.heap.size {flat0 with kind:=14,of_:=o,name:=n,names:=l} sc sd sn w')∧After E b s5 W w':=by
 have hbl:=h.2.2.1
 have HP:=hdd h;clear h
 have H1:=hdd h1;clear h1
 have H2:=hdd h2;clear h2
 have H3:=hdd h3;clear h3
 have H4:=hdd h4;clear h4
 have H5:=hdd h5;clear h5
 go_enter Tryd.func92,Tryd.ntmps92
 go_wp2_with fail
 refine (name_any E b s _ ((After.start HP.o).alloc _).1).mono ?_
 rw [H1.o]
 rintro e w1 ⟨rfl,hA⟩
 have GR:Hid (I0 W w1):=hA.2.blk (jq5 (by simp)) (by omega)
 have GA:=hdd (((After.start HP.o).alloc _).trans hA)
 have hs1:W.heap.size<w1.heap.size:=by have:=hA.2.size;simp only [World.size_alloc] at this;omega
 clear hA
 revert GR GA;intro HR HA
 go_wp2_with (first|(refine wpList_build rfl 57 _ rfl #[(0,.int .i64 14),(3,.string ⟨o.toArray⟩)] ?_ _ (build_incl o _) ?_;(simp [Act.eval]))|(refine jq4 rfl 57 _ _ rfl rfl (icells {flat0 with kind:=14,of_:=o} nil nil nil nil).toArray rfl (jq6 _ _ _ _ _) (ic1 ..) (by rfl) ?_))
 refine (expect1 E b s1 [97,115] _ _ (by simp) (HA.o.alloc _).1).mono ?_
 rw [H2.o]
 rintro e w2 ⟨rfl,hA⟩
 have GR:Hid (I0 W w2):=hA.2.blk (jq9 HR.o _) (by omega)
 have GI:Hid (I4 w1.heap.size {flat0 with kind:=14,of_:=o} w2):=hA.2.blk (jq5 (by simp)) (by omega)
 have GA:=hdd ((HA.o.alloc _).trans hA)
 have hs2:W.heap.size<w2.heap.size:=by have:=hA.2.size;simp only [World.size_alloc] at this;omega
 clear hA
 clear HA HR
 revert GR GI GA;intro HR HI HA
 go_wp2_with fail
 refine (name_any E b s2 _ HA.o.1).mono ?_
 rw [H3.o]
 rintro e w3 ⟨rfl,hA⟩
 have GR:Hid (I0 W w3):=hA.2.blk HR.o (by omega)
 have GI:Hid (I4 w1.heap.size {flat0 with kind:=14,of_:=o} w3):=hA.2.blk HI.o (by omega)
 have GA:=hdd (HA.o.trans hA)
 have hs3:W.heap.size<w3.heap.size:=by have:=hA.2.size;omega
 clear hA
 clear HA HR HI
 revert GR GI GA;intro HR HI HA
 have kI_1:w3.cell? ⟨w1.heap.size,1,none⟩=some (.string ⟨#[]⟩):=jq0 HI.o 1
 have fI_1:w3.frozen? ⟨w1.heap.size,1,none⟩=false:=jq1 HI.o 1
 go_wp2_with fail
 have hqi:=jq7 HI.o
 refine (names_any E b s3 _ (HA.o.set (i:=1) (by omega) (by omega) (.string ⟨n.toArray⟩)).1).mono ?_
 rw [H4.o]
 rintro e w4 ⟨⟨sn,rfl,hO⟩,hA⟩
 obtain ⟨An,cn,rfl⟩:=own_form hO
 have GR:Hid (I0 W w4):=hA.2.blk (jq2 HR.o (by omega) (.string ⟨n.toArray⟩)) (by omega)
 have GI:Hid (I4 w1.heap.size {flat0 with kind:=14,of_:=o,name:=n} w4):=hA.2.blk (IB.set_name HI.o n) (by omega)
 have GRN:Hid (w4.ownsRow (w1.heap.size+1) 9 1 (.slice An l.length cn) l.length (l.map sv)):=own_base hO (by simp only [World.size_setCell];omega)
 have GA:=hdd ((HA.o.set (i:=1) (by omega) (by omega) (.string ⟨n.toArray⟩)).trans hA)
 have hs4:W.heap.size<w4.heap.size:=jq7 GR.o
 clear hA hO
 clear HA
 clear HR
 clear HI
 try clear kI_1 fI_1
 revert GR GI GA;intro HR HI HA
 have kn:w4.cell? ⟨w1.heap.size,31,none⟩=some nil:=jq0 HI.o 31
 unfold nil at kn
 have fn:w4.frozen? ⟨w1.heap.size,31,none⟩=false:=jq1 HI.o 31
 go_wp2_with fail
 refine (expect1 E b s4 [59] _ _ (by simp) (HA.o.set (i:=31) (by omega) (by omega) (.slice An l.length cn)).1).mono ?_
 rw [H5.o]
 rintro e w5 ⟨rfl,hA⟩
 have GR:Hid (I0 W w5):=hA.2.blk (jq2 HR.o (by omega) (.slice An l.length cn)) (by omega)
 have GI:Hid (IB w1.heap.size {flat0 with kind:=14,of_:=o,name:=n,names:=l} nil nil (.slice An l.length cn) nil w5):=hA.2.blk (IB.set_sn HI.o (.slice An l.length cn)) (by omega)
 have GRN:=hdd (jx5 (jv0 (c:=w1.heap.size) (i:=31) GRN.o (fun g hg=>by have:=(own_lt GRN.o g hg).1;omega) (.slice An l.length cn)) hA.2 (fun k hk _ e=>by omega))
 have GA:=hdd ((HA.o.set (i:=31) (by omega) (by omega) (.slice An l.length cn)).trans hA)
 have hs5:W.heap.size<w5.heap.size:=by have:=hA.2.size;simp only [World.size_setCell] at this;omega
 clear hA
 try clear kn fn
 clear HA HR HI
 revert GR GI GRN GA;intro HR HI HRN HA
 obtain ⟨w99,hw99,hA99,hl99,ho99⟩:=item_end (g:=flat0) (a1:=nil) (a2:=nil) (a3:=nil) (a4:=nil) HR.o HA.o hbl {flat0 with kind:=14,of_:=o,name:=n,names:=l} nil nil (.slice An l.length cn) nil
 have R99RN:=hdd (own_base (ho99 _ _ _ _ _ _ (by omega) HRN.o) (by omega:W.heap.size≤_))
 have HW99:=hdd hw99;clear hw99
 have HA99:=hdd hA99;clear hA99
 have HL99:=hdd hl99;clear hl99 ho99
 have HI9:Hid (IB w1.heap.size {flat0 with kind:=14,of_:=o,name:=n,names:=l} nil nil (.slice An l.length cn) nil _):=HI.o
 have HR9:Hid (I0 W _):=HR.o
 go_wp2_with (first|(refine wpList_load_mid rfl 57 _ rfl w1.heap.size 0 rfl (icells {flat0 with kind:=14,of_:=o,name:=n,names:=l} nil nil (.slice An l.length cn) nil) _ HI9.o.range Tryd.underlying57 rfl (jx6 _ _ _ _ _) ?_)|(refine wpList_store_mid rfl 57 _ _ rfl W.heap.size 0 (icells {flat0 with kind:=14,of_:=o,name:=n,names:=l} nil nil (.slice An l.length cn) nil).toArray rfl rfl (HR9.o.there' _ _ _ _ _) (jq6 _ _ _ _ _) (ic1 ..) ?_;rw [HW99.o]))
 exact bodyPost_ret (v:= .agg (icells {flat0 with kind:=14,of_:=o,name:=n,names:=l} nil nil (.slice An l.length cn) nil).toArray) (jq8 Tryd.results92 rfl HL99.o) rfl ⟨⟨nil,nil,(.slice An l.length cn),rfl,⟨World.ownsRow_nil _ _ _ _,World.ownsRow_nil _ _ _ _,R99RN.o⟩⟩,HA99.o⟩
theorem incl_any (E:Env) (b:Nat) (s:St) (W:World) (h:PW E b s W):
  Calls Tryd.prog 92 #[.pointer (some ⟨b,0,none⟩)] W fun e w'=>(∃sc sd sn,e= .returned (.agg (icells (incl s).1 sc sd sn nil).toArray)∧FlatOK W.heap.size (incl s).1 sc sd sn w')∧After E b (incl s).2 W w':=by
 obtain ⟨o,s1,h1⟩: ∃x s',name s=(x,s'):=⟨_,_,rfl⟩
 obtain ⟨u2,s2,h2⟩: ∃x s',expect [[97,115]] s1=(x,s'):=⟨_,_,rfl⟩
 obtain ⟨n,s3,h3⟩: ∃x s',name s2=(x,s'):=⟨_,_,rfl⟩
 obtain ⟨l,s4,h4⟩: ∃x s',names s3=(x,s'):=⟨_,_,rfl⟩
 obtain ⟨u5,s5,h5⟩: ∃x s',expect [[59]] s4=(x,s'):=⟨_,_,rfl⟩
 have hp:incl s=({flat0 with kind:=14,of_:=o,name:=n,names:=l},s5):=(jq3 h1).trans ((jx1 h2).trans ((jq3 h3).trans ((jq3 h4).trans ((jx1 h5).trans (rfl)))))
 rw [hp]
 exact incl_p1 E b s W h o s1 u2 s2 n s3 l s4 u5 s5 h1 h2 h3 h4 h5
end Go.Proofs.YtfaflipphkoiiaaDoor.Pr
