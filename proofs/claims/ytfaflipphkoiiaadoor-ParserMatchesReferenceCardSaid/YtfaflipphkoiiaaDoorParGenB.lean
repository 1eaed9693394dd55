/-
  What some methods of the parser return (printed by parwalk.py): party, role, spanDefinition, sumDefinition, unit.
-/
import Derived.Test.YtfaflipphkoiiaaDoorParGenA
set_option maxHeartbeats 64000000
set_option maxRecDepth 100000
set_option linter.unusedVariables false
namespace Go.Proofs.YtfaflipphkoiiaaDoor.Pr
open Go.RowKit Mem
open Lx (Tok)
theorem build_party (n:Bytes) (w:World):(Instr.build 57 #[(0,.int .i64 1),(1,.string ⟨n.toArray⟩)]).run Tryd.prog w= .ok (.agg (icells {flat0 with kind:=1,name:=n} nil nil nil nil).toArray) w:=by kernel_rfl
theorem party_p1 (E:Env) (b:Nat) (s:St) (W:World) (h:PW E b s W) (n:Bytes) (s1:St) (u2:Unit) (s2:St) (h1:name s=(n,s1)) (h2:expect [[59]] s1=(u2,s2)):
  Calls Tryd.prog 61 #[.pointer (some ⟨b,0,none⟩)] W fun e w'=>(∃sc sd sn,e= .returned (.agg (icells {flat0 with kind:=1,name:=n} sc sd sn nil).toArray)∧FlatOK W.heap.size {flat0 with kind:=1,name:=n} sc sd sn w')∧After E b s2 W w':=by
 have hbl:=h.2.2.1
 have HP:=hdd h;clear h
 have H1:=hdd h1;clear h1
 have H2:=hdd h2;clear h2
 go_enter Tryd.func61,Tryd.ntmps61
 go_wp2_with fail
 refine (name_any E b s _ ((After.start HP.o).alloc _).1).mono ?_
 rw [H1.o]
 rintro e w1 ⟨rfl,hA⟩
 have GR:Hid (I0 W w1):=hA.2.blk (jq5 (by simp)) (by omega)
 have GA:=hdd (((After.start HP.o).alloc _).trans hA)
 have hs1:W.heap.size<w1.heap.size:=by have:=hA.2.size;simp only [World.size_alloc] at this;omega
 clear hA
 revert GR GA;intro HR HA
 go_wp2_with (first|(refine wpList_build rfl 57 _ rfl #[(0,.int .i64 1),(1,.string ⟨n.toArray⟩)] ?_ _ (build_party n _) ?_;(simp [Act.eval]))|(refine jq4 rfl 57 _ _ rfl rfl (icells {flat0 with kind:=1,name:=n} nil nil nil nil).toArray rfl (jq6 _ _ _ _ _) (ic1 ..) (by rfl) ?_))
 refine (expect1 E b s1 [59] _ _ (by simp) (HA.o.alloc _).1).mono ?_
 rw [H2.o]
 rintro e w2 ⟨rfl,hA⟩
 have GR:Hid (I0 W w2):=hA.2.blk (jq9 HR.o _) (by omega)
 have GI:Hid (I4 w1.heap.size {flat0 with kind:=1,name:=n} w2):=hA.2.blk (jq5 (by simp)) (by omega)
 have GA:=hdd ((HA.o.alloc _).trans hA)
 have hs2:W.heap.size<w2.heap.size:=by have:=hA.2.size;simp only [World.size_alloc] at this;omega
 clear hA
 clear HA HR
 revert GR GI GA;intro HR HI HA
 obtain ⟨w99,hw99,hA99,hl99,ho99⟩:=item_end (g:=flat0) (a1:=nil) (a2:=nil) (a3:=nil) (a4:=nil) HR.o HA.o hbl {flat0 with kind:=1,name:=n} nil nil nil nil
 have HW99:=hdd hw99;clear hw99
 have HA99:=hdd hA99;clear hA99
 have HL99:=hdd hl99;clear hl99 ho99
 have HI9:Hid (I4 w1.heap.size {flat0 with kind:=1,name:=n} _):=HI.o
 have HR9:Hid (I0 W _):=HR.o
 go_wp2_with (first|(refine wpList_load_mid rfl 57 _ rfl w1.heap.size 0 rfl (icells {flat0 with kind:=1,name:=n} nil nil nil nil) _ HI9.o.range Tryd.underlying57 rfl (jx6 _ _ _ _ _) ?_)|(refine wpList_store_mid rfl 57 _ _ rfl W.heap.size 0 (icells {flat0 with kind:=1,name:=n} nil nil nil nil).toArray rfl rfl (HR9.o.there' _ _ _ _ _) (jq6 _ _ _ _ _) (ic1 ..) ?_;rw [HW99.o]))
 exact bodyPost_ret (v:= .agg (icells {flat0 with kind:=1,name:=n} nil nil nil nil).toArray) (jq8 Tryd.results61 rfl HL99.o) rfl ⟨⟨nil,nil,nil,rfl,FlatOK.nil _ _ _ rfl rfl rfl⟩,HA99.o⟩
theorem party_any (E:Env) (b:Nat) (s:St) (W:World) (h:PW E b s W):
  Calls Tryd.prog 61 #[.pointer (some ⟨b,0,none⟩)] W fun e w'=>(∃sc sd sn,e= .returned (.agg (icells (party s).1 sc sd sn nil).toArray)∧FlatOK W.heap.size (party s).1 sc sd sn w')∧After E b (party s).2 W w':=by
 obtain ⟨n,s1,h1⟩: ∃x s',name s=(x,s'):=⟨_,_,rfl⟩
 obtain ⟨u2,s2,h2⟩: ∃x s',expect [[59]] s1=(x,s'):=⟨_,_,rfl⟩
 have hp:party s=({flat0 with kind:=1,name:=n},s2):=(jq3 h1).trans ((jx1 h2).trans (rfl))
 rw [hp]
 exact party_p1 E b s W h n s1 u2 s2 h1 h2
theorem build_role (n:Bytes) (w:World):(Instr.build 57 #[(0,.int .i64 2),(1,.string ⟨n.toArray⟩)]).run Tryd.prog w= .ok (.agg (icells {flat0 with kind:=2,name:=n} nil nil nil nil).toArray) w:=by kernel_rfl
theorem role_p1 (E:Env) (b:Nat) (s:St) (W:World) (h:PW E b s W) (n:Bytes) (s1:St) (u2:Unit) (s2:St) (o:Bytes) (s3:St) (u4:Unit) (s4:St) (h1:name s=(n,s1)) (h2:expect [[111,102]] s1=(u2,s2)) (h3:name s2=(o,s3)) (h4:expect [[59]] s3=(u4,s4)):
  Calls Tryd.prog 62 #[.pointer (some ⟨b,0,none⟩)] W fun e w'=>(∃sc sd sn,e= .returned (.agg (icells {flat0 with kind:=2,name:=n,of_:=o} sc sd sn nil).toArray)∧FlatOK W.heap.size {flat0 with kind:=2,name:=n,of_:=o} sc sd sn w')∧After E b s4 W w':=by
 have hbl:=h.2.2.1
 have HP:=hdd h;clear h
 have H1:=hdd h1;clear h1
 have H2:=hdd h2;clear h2
 have H3:=hdd h3;clear h3
 have H4:=hdd h4;clear h4
 go_enter Tryd.func62,Tryd.ntmps62
 go_wp2_with fail
 refine (name_any E b s _ ((After.start HP.o).alloc _).1).mono ?_
 rw [H1.o]
 rintro e w1 ⟨rfl,hA⟩
 have GR:Hid (I0 W w1):=hA.2.blk (jq5 (by simp)) (by omega)
 have GA:=hdd (((After.start HP.o).alloc _).trans hA)
 have hs1:W.heap.size<w1.heap.size:=by have:=hA.2.size;simp only [World.size_alloc] at this;omega
 clear hA
 revert GR GA;intro HR HA
 go_wp2_with (first|(refine wpList_build rfl 57 _ rfl #[(0,.int .i64 2),(1,.string ⟨n.toArray⟩)] ?_ _ (build_role n _) ?_;(simp [Act.eval]))|(refine jq4 rfl 57 _ _ rfl rfl (icells {flat0 with kind:=2,name:=n} nil nil nil nil).toArray rfl (jq6 _ _ _ _ _) (ic1 ..) (by rfl) ?_))
 refine (expect1 E b s1 [111,102] _ _ (by simp) (HA.o.alloc _).1).mono ?_
 rw [H2.o]
 rintro e w2 ⟨rfl,hA⟩
 have GR:Hid (I0 W w2):=hA.2.blk (jq9 HR.o _) (by omega)
 have GI:Hid (I4 w1.heap.size {flat0 with kind:=2,name:=n} w2):=hA.2.blk (jq5 (by simp)) (by omega)
 have GA:=hdd ((HA.o.alloc _).trans hA)
 have hs2:W.heap.size<w2.heap.size:=by have:=hA.2.size;simp only [World.size_alloc] at this;omega
 clear hA
 clear HA HR
 revert GR GI GA;intro HR HI HA
 go_wp2_with fail
 refine (name_any E b s2 _ HA.o.1).mono ?_
 rw [H3.o]
 rintro e w3 ⟨rfl,hA⟩
 have GR:Hid (I0 W w3):=hA.2.blk HR.o (by omega)
 have GI:Hid (I4 w1.heap.size {flat0 with kind:=2,name:=n} w3):=hA.2.blk HI.o (by omega)
 have GA:=hdd (HA.o.trans hA)
 have hs3:W.heap.size<w3.heap.size:=by have:=hA.2.size;omega
 clear hA
 clear HA HR HI
 revert GR GI GA;intro HR HI HA
 have kI_3:w3.cell? ⟨w1.heap.size,3,none⟩=some (.string ⟨#[]⟩):=jq0 HI.o 3
 have fI_3:w3.frozen? ⟨w1.heap.size,3,none⟩=false:=jq1 HI.o 3
 go_wp2_with fail
 refine (expect1 E b s3 [59] _ _ (by simp) (HA.o.set (i:=3) (by omega) (by omega) (.string ⟨o.toArray⟩)).1).mono ?_
 rw [H4.o]
 rintro e w4 ⟨rfl,hA⟩
 have GR:Hid (I0 W w4):=hA.2.blk (jq2 HR.o (by omega) (.string ⟨o.toArray⟩)) (by omega)
 have GI:Hid (I4 w1.heap.size {flat0 with kind:=2,name:=n,of_:=o} w4):=hA.2.blk (IB.set_of_ HI.o o) (by omega)
 have GA:=hdd ((HA.o.set (i:=3) (by omega) (by omega) (.string ⟨o.toArray⟩)).trans hA)
 have hs4:W.heap.size<w4.heap.size:=by have:=hA.2.size;simp only [World.size_setCell] at this;omega
 clear hA
 try clear kI_3 fI_3
 clear HA HR HI
 revert GR GI GA;intro HR HI HA
 obtain ⟨w99,hw99,hA99,hl99,ho99⟩:=item_end (g:=flat0) (a1:=nil) (a2:=nil) (a3:=nil) (a4:=nil) HR.o HA.o hbl {flat0 with kind:=2,name:=n,of_:=o} nil nil nil nil
 have HW99:=hdd hw99;clear hw99
 have HA99:=hdd hA99;clear hA99
 have HL99:=hdd hl99;clear hl99 ho99
 have HI9:Hid (I4 w1.heap.size {flat0 with kind:=2,name:=n,of_:=o} _):=HI.o
 have HR9:Hid (I0 W _):=HR.o
 go_wp2_with (first|(refine wpList_load_mid rfl 57 _ rfl w1.heap.size 0 rfl (icells {flat0 with kind:=2,name:=n,of_:=o} nil nil nil nil) _ HI9.o.range Tryd.underlying57 rfl (jx6 _ _ _ _ _) ?_)|(refine wpList_store_mid rfl 57 _ _ rfl W.heap.size 0 (icells {flat0 with kind:=2,name:=n,of_:=o} nil nil nil nil).toArray rfl rfl (HR9.o.there' _ _ _ _ _) (jq6 _ _ _ _ _) (ic1 ..) ?_;rw [HW99.o]))
 exact bodyPost_ret (v:= .agg (icells {flat0 with kind:=2,name:=n,of_:=o} nil nil nil nil).toArray) (jq8 Tryd.results62 rfl HL99.o) rfl ⟨⟨nil,nil,nil,rfl,FlatOK.nil _ _ _ rfl rfl rfl⟩,HA99.o⟩
theorem role_any (E:Env) (b:Nat) (s:St) (W:World) (h:PW E b s W):
  Calls Tryd.prog 62 #[.pointer (some ⟨b,0,none⟩)] W fun e w'=>(∃sc sd sn,e= .returned (.agg (icells (role s).1 sc sd sn nil).toArray)∧FlatOK W.heap.size (role s).1 sc sd sn w')∧After E b (role s).2 W w':=by
 obtain ⟨n,s1,h1⟩: ∃x s',name s=(x,s'):=⟨_,_,rfl⟩
 obtain ⟨u2,s2,h2⟩: ∃x s',expect [[111,102]] s1=(x,s'):=⟨_,_,rfl⟩
 obtain ⟨o,s3,h3⟩: ∃x s',name s2=(x,s'):=⟨_,_,rfl⟩
 obtain ⟨u4,s4,h4⟩: ∃x s',expect [[59]] s3=(x,s'):=⟨_,_,rfl⟩
 have hp:role s=({flat0 with kind:=2,name:=n,of_:=o},s4):=(jq3 h1).trans ((jx1 h2).trans ((jq3 h3).trans ((jx1 h4).trans (rfl))))
 rw [hp]
 exact role_p1 E b s W h n s1 u2 s2 o s3 u4 s4 h1 h2 h3 h4
theorem build_spanDef (n:Bytes) (w:World):(Instr.build 57 #[(0,.int .i64 6),(1,.string ⟨n.toArray⟩)]).run Tryd.prog w= .ok (.agg (icells {flat0 with kind:=6,name:=n} nil nil nil nil).toArray) w:=by kernel_rfl
theorem spanDef_p1 (E:Env) (b:Nat) (s:St) (W:World) (h:PW E b s W) (n:Bytes) (s1:St) (u2:Unit) (s2:St) (d:Span) (s3:St) (u4:Unit) (s4:St) (h1:name s=(n,s1)) (h2:expect [[61]] s1=(u2,s2)) (h3:days s2=(d,s3)) (h4:expect [[59]] s3=(u4,s4)):
  Calls Tryd.prog 66 #[.pointer (some ⟨b,0,none⟩)] W fun e w'=>(∃sc sd sn,e= .returned (.agg (icells {flat0 with kind:=6,name:=n,within:=d} sc sd sn nil).toArray)∧FlatOK W.heap.size {flat0 with kind:=6,name:=n,within:=d} sc sd sn w')∧After E b s4 W w':=by
 have hbl:=h.2.2.1
 have HP:=hdd h;clear h
 have H1:=hdd h1;clear h1
 have H2:=hdd h2;clear h2
 have H3:=hdd h3;clear h3
 have H4:=hdd h4;clear h4
 go_enter Tryd.func66,Tryd.ntmps66
 go_wp2_with fail
 refine (name_any E b s _ ((After.start HP.o).alloc _).1).mono ?_
 rw [H1.o]
 rintro e w1 ⟨rfl,hA⟩
 have GR:Hid (I0 W w1):=hA.2.blk (jq5 (by simp)) (by omega)
 have GA:=hdd (((After.start HP.o).alloc _).trans hA)
 have hs1:W.heap.size<w1.heap.size:=by have:=hA.2.size;simp only [World.size_alloc] at this;omega
 clear hA
 revert GR GA;intro HR HA
 go_wp2_with (first|(refine wpList_build rfl 57 _ rfl #[(0,.int .i64 6),(1,.string ⟨n.toArray⟩)] ?_ _ (build_spanDef n _) ?_;(simp [Act.eval]))|(refine jq4 rfl 57 _ _ rfl rfl (icells {flat0 with kind:=6,name:=n} nil nil nil nil).toArray rfl (jq6 _ _ _ _ _) (ic1 ..) (by rfl) ?_))
 refine (expect1 E b s1 [61] _ _ (by simp) (HA.o.alloc _).1).mono ?_
 rw [H2.o]
 rintro e w2 ⟨rfl,hA⟩
 have GR:Hid (I0 W w2):=hA.2.blk (jq9 HR.o _) (by omega)
 have GI:Hid (I4 w1.heap.size {flat0 with kind:=6,name:=n} w2):=hA.2.blk (jq5 (by simp)) (by omega)
 have GA:=hdd ((HA.o.alloc _).trans hA)
 have hs2:W.heap.size<w2.heap.size:=by have:=hA.2.size;simp only [World.size_alloc] at this;omega
 clear hA
 clear HA HR
 revert GR GI GA;intro HR HI HA
 go_wp2_with fail
 refine (days_any E b s2 _ HA.o.1).mono ?_
 rw [H3.o]
 rintro e w3 ⟨rfl,hA⟩
 have GR:Hid (I0 W w3):=hA.2.blk HR.o (by omega)
 have GI:Hid (I4 w1.heap.size {flat0 with kind:=6,name:=n} w3):=hA.2.blk HI.o (by omega)
 have GA:=hdd (HA.o.trans hA)
 have hs3:W.heap.size<w3.heap.size:=by have:=hA.2.size;omega
 clear hA
 clear HA HR HI
 revert GR GI GA;intro HR HI HA
 have kI_7:w3.cell? ⟨w1.heap.size,7,none⟩=some (.int .i64 0):=jq0 HI.o 7
 have fI_7:w3.frozen? ⟨w1.heap.size,7,none⟩=false:=jq1 HI.o 7
 have kI_8:w3.cell? ⟨w1.heap.size,8,none⟩=some (.bool false):=jq0 HI.o 8
 have fI_8:w3.frozen? ⟨w1.heap.size,8,none⟩=false:=jq1 HI.o 8
 have kI_9:w3.cell? ⟨w1.heap.size,9,none⟩=some (.string ⟨#[]⟩):=jq0 HI.o 9
 have fI_9:w3.frozen? ⟨w1.heap.size,9,none⟩=false:=jq1 HI.o 9
 go_wp2_with fail
 refine (expect1 E b s3 [59] _ _ (by simp) (((HA.o.set (i:=7) (by omega) (by omega) (.int .i64 (d.days:Int))).set (i:=8) (by omega) (by omega) (.bool d.bus)).set (i:=9) (by omega) (by omega) (.string ⟨d.name.toArray⟩)).1).mono ?_
 rw [H4.o]
 rintro e w4 ⟨rfl,hA⟩
 have GR:Hid (I0 W w4):=hA.2.blk (jq2 (jq2 (jq2 HR.o (by omega) (.int .i64 (d.days:Int))) (by omega) (.bool d.bus)) (by omega) (.string ⟨d.name.toArray⟩)) (by omega)
 have GI:Hid (I4 w1.heap.size {flat0 with kind:=6,name:=n,within:=d} w4):=hA.2.blk (IB.set_within HI.o d) (by omega)
 have GA:=hdd ((((HA.o.set (i:=7) (by omega) (by omega) (.int .i64 (d.days:Int))).set (i:=8) (by omega) (by omega) (.bool d.bus)).set (i:=9) (by omega) (by omega) (.string ⟨d.name.toArray⟩)).trans hA)
 have hs4:W.heap.size<w4.heap.size:=by have:=hA.2.size;simp only [World.size_setCell] at this;omega
 clear hA
 try clear kI_7 fI_7 kI_8 fI_8 kI_9 fI_9
 clear HA HR HI
 revert GR GI GA;intro HR HI HA
 obtain ⟨w99,hw99,hA99,hl99,ho99⟩:=item_end (g:=flat0) (a1:=nil) (a2:=nil) (a3:=nil) (a4:=nil) HR.o HA.o hbl {flat0 with kind:=6,name:=n,within:=d} nil nil nil nil
 have HW99:=hdd hw99;clear hw99
 have HA99:=hdd hA99;clear hA99
 have HL99:=hdd hl99;clear hl99 ho99
 have HI9:Hid (I4 w1.heap.size {flat0 with kind:=6,name:=n,within:=d} _):=HI.o
 have HR9:Hid (I0 W _):=HR.o
 go_wp2_with (first|(refine wpList_load_mid rfl 57 _ rfl w1.heap.size 0 rfl (icells {flat0 with kind:=6,name:=n,within:=d} nil nil nil nil) _ HI9.o.range Tryd.underlying57 rfl (jx6 _ _ _ _ _) ?_)|(refine wpList_store_mid rfl 57 _ _ rfl W.heap.size 0 (icells {flat0 with kind:=6,name:=n,within:=d} nil nil nil nil).toArray rfl rfl (HR9.o.there' _ _ _ _ _) (jq6 _ _ _ _ _) (ic1 ..) ?_;rw [HW99.o]))
 exact bodyPost_ret (v:= .agg (icells {flat0 with kind:=6,name:=n,within:=d} nil nil nil nil).toArray) (jq8 Tryd.results66 rfl HL99.o) rfl ⟨⟨nil,nil,nil,rfl,FlatOK.nil _ _ _ rfl rfl rfl⟩,HA99.o⟩
theorem spanDef_any (E:Env) (b:Nat) (s:St) (W:World) (h:PW E b s W):
  Calls Tryd.prog 66 #[.pointer (some ⟨b,0,none⟩)] W fun e w'=>(∃sc sd sn,e= .returned (.agg (icells (spanDef s).1 sc sd sn nil).toArray)∧FlatOK W.heap.size (spanDef s).1 sc sd sn w')∧After E b (spanDef s).2 W w':=by
 obtain ⟨n,s1,h1⟩: ∃x s',name s=(x,s'):=⟨_,_,rfl⟩
 obtain ⟨u2,s2,h2⟩: ∃x s',expect [[61]] s1=(x,s'):=⟨_,_,rfl⟩
 obtain ⟨d,s3,h3⟩: ∃x s',days s2=(x,s'):=⟨_,_,rfl⟩
 obtain ⟨u4,s4,h4⟩: ∃x s',expect [[59]] s3=(x,s'):=⟨_,_,rfl⟩
 have hp:spanDef s=({flat0 with kind:=6,name:=n,within:=d},s4):=(jq3 h1).trans ((jx1 h2).trans ((jq3 h3).trans ((jx1 h4).trans (rfl))))
 rw [hp]
 exact spanDef_p1 E b s W h n s1 u2 s2 d s3 u4 s4 h1 h2 h3 h4
theorem build_sumDef (n:Bytes) (w:World):(Instr.build 57 #[(0,.int .i64 7),(1,.string ⟨n.toArray⟩)]).run Tryd.prog w= .ok (.agg (icells {flat0 with kind:=7,name:=n} nil nil nil nil).toArray) w:=by kernel_rfl
theorem sumDef_p1 (E:Env) (b:Nat) (s:St) (W:World) (h:PW E b s W) (n:Bytes) (s1:St) (u2:Unit) (s2:St) (r:Ratio) (s3:St) (u:Bytes) (s4:St) (u5:Unit) (s5:St) (h1:name s=(n,s1)) (h2:expect [[61]] s1=(u2,s2)) (h3:ratio s2=(r,s3)) (h4:name s3=(u,s4)) (h5:expect [[59]] s4=(u5,s5)):
  Calls Tryd.prog 67 #[.pointer (some ⟨b,0,none⟩)] W fun e w'=>(∃sc sd sn,e= .returned (.agg (icells {flat0 with kind:=7,name:=n,num:=r,unit:=u} sc sd sn nil).toArray)∧FlatOK W.heap.size {flat0 with kind:=7,name:=n,num:=r,unit:=u} sc sd sn w')∧After E b s5 W w':=by
 have hbl:=h.2.2.1
 have HP:=hdd h;clear h
 have H1:=hdd h1;clear h1
 have H2:=hdd h2;clear h2
 have H3:=hdd h3;clear h3
 have H4:=hdd h4;clear h4
 have H5:=hdd h5;clear h5
 go_enter Tryd.func67,Tryd.ntmps67
 go_wp2_with fail
 refine (name_any E b s _ ((After.start HP.o).alloc _).1).mono ?_
 rw [H1.o]
 rintro e w1 ⟨rfl,hA⟩
 have GR:Hid (I0 W w1):=hA.2.blk (jq5 (by simp)) (by omega)
 have GA:=hdd (((After.start HP.o).alloc _).trans hA)
 have hs1:W.heap.size<w1.heap.size:=by have:=hA.2.size;simp only [World.size_alloc] at this;omega
 clear hA
 revert GR GA;intro HR HA
 go_wp2_with (first|(refine wpList_build rfl 57 _ rfl #[(0,.int .i64 7),(1,.string ⟨n.toArray⟩)] ?_ _ (build_sumDef n _) ?_;(simp [Act.eval]))|(refine jq4 rfl 57 _ _ rfl rfl (icells {flat0 with kind:=7,name:=n} nil nil nil nil).toArray rfl (jq6 _ _ _ _ _) (ic1 ..) (by rfl) ?_))
 refine (expect1 E b s1 [61] _ _ (by simp) (HA.o.alloc _).1).mono ?_
 rw [H2.o]
 rintro e w2 ⟨rfl,hA⟩
 have GR:Hid (I0 W w2):=hA.2.blk (jq9 HR.o _) (by omega)
 have GI:Hid (I4 w1.heap.size {flat0 with kind:=7,name:=n} w2):=hA.2.blk (jq5 (by simp)) (by omega)
 have GA:=hdd ((HA.o.alloc _).trans hA)
 have hs2:W.heap.size<w2.heap.size:=by have:=hA.2.size;simp only [World.size_alloc] at this;omega
 clear hA
 clear HA HR
 revert GR GI GA;intro HR HI HA
 go_wp2_with fail
 refine (ratio_any E b s2 _ HA.o.1).mono ?_
 rw [H3.o]
 rintro e w3 ⟨rfl,hA⟩
 have GR:Hid (I0 W w3):=hA.2.blk HR.o (by omega)
 have GI:Hid (I4 w1.heap.size {flat0 with kind:=7,name:=n} w3):=hA.2.blk HI.o (by omega)
 have GA:=hdd (HA.o.trans hA)
 have hs3:W.heap.size<w3.heap.size:=by have:=hA.2.size;omega
 clear hA
 clear HA HR HI
 revert GR GI GA;intro HR HI HA
 have kI_16:w3.cell? ⟨w1.heap.size,16,none⟩=some (.int .i64 0):=jq0 HI.o 16
 have fI_16:w3.frozen? ⟨w1.heap.size,16,none⟩=false:=jq1 HI.o 16
 have kI_17:w3.cell? ⟨w1.heap.size,17,none⟩=some (.int .i64 0):=jq0 HI.o 17
 have fI_17:w3.frozen? ⟨w1.heap.size,17,none⟩=false:=jq1 HI.o 17
 go_wp2_with fail
 refine (name_any E b s3 _ ((HA.o.set (i:=16) (by omega) (by omega) (.int .i64 (r.num:Int))).set (i:=17) (by omega) (by omega) (.int .i64 (r.den:Int))).1).mono ?_
 rw [H4.o]
 rintro e w4 ⟨rfl,hA⟩
 have GR:Hid (I0 W w4):=hA.2.blk (jq2 (jq2 HR.o (by omega) (.int .i64 (r.num:Int))) (by omega) (.int .i64 (r.den:Int))) (by omega)
 have GI:Hid (I4 w1.heap.size {flat0 with kind:=7,name:=n,num:=r} w4):=hA.2.blk (IB.set_num HI.o r) (by omega)
 have GA:=hdd (((HA.o.set (i:=16) (by omega) (by omega) (.int .i64 (r.num:Int))).set (i:=17) (by omega) (by omega) (.int .i64 (r.den:Int))).trans hA)
 have hs4:W.heap.size<w4.heap.size:=by have:=hA.2.size;simp only [World.size_setCell] at this;omega
 clear hA
 try clear kI_16 fI_16 kI_17 fI_17
 clear HA HR HI
 revert GR GI GA;intro HR HI HA
 have kI_18:w4.cell? ⟨w1.heap.size,18,none⟩=some (.string ⟨#[]⟩):=jq0 HI.o 18
 have fI_18:w4.frozen? ⟨w1.heap.size,18,none⟩=false:=jq1 HI.o 18
 go_wp2_with fail
 refine (expect1 E b s4 [59] _ _ (by simp) (HA.o.set (i:=18) (by omega) (by omega) (.string ⟨u.toArray⟩)).1).mono ?_
 rw [H5.o]
 rintro e w5 ⟨rfl,hA⟩
 have GR:Hid (I0 W w5):=hA.2.blk (jq2 HR.o (by omega) (.string ⟨u.toArray⟩)) (by omega)
 have GI:Hid (I4 w1.heap.size {flat0 with kind:=7,name:=n,num:=r,unit:=u} w5):=hA.2.blk (IB.set_unit HI.o u) (by omega)
 have GA:=hdd ((HA.o.set (i:=18) (by omega) (by omega) (.string ⟨u.toArray⟩)).trans hA)
 have hs5:W.heap.size<w5.heap.size:=by have:=hA.2.size;simp only [World.size_setCell] at this;omega
 clear hA
 try clear kI_18 fI_18
 clear HA HR HI
 revert GR GI GA;intro HR HI HA
 obtain ⟨w99,hw99,hA99,hl99,ho99⟩:=item_end (g:=flat0) (a1:=nil) (a2:=nil) (a3:=nil) (a4:=nil) HR.o HA.o hbl {flat0 with kind:=7,name:=n,num:=r,unit:=u} nil nil nil nil
 have HW99:=hdd hw99;clear hw99
 have HA99:=hdd hA99;clear hA99
 have HL99:=hdd hl99;clear hl99 ho99
 have HI9:Hid (I4 w1.heap.size {flat0 with kind:=7,name:=n,num:=r,unit:=u} _):=HI.o
 have HR9:Hid (I0 W _):=HR.o
 go_wp2_with (first|(refine wpList_load_mid rfl 57 _ rfl w1.heap.size 0 rfl (icells {flat0 with kind:=7,name:=n,num:=r,unit:=u} nil nil nil nil) _ HI9.o.range Tryd.underlying57 rfl (jx6 _ _ _ _ _) ?_)|(refine wpList_store_mid rfl 57 _ _ rfl W.heap.size 0 (icells {flat0 with kind:=7,name:=n,num:=r,unit:=u} nil nil nil nil).toArray rfl rfl (HR9.o.there' _ _ _ _ _) (jq6 _ _ _ _ _) (ic1 ..) ?_;rw [HW99.o]))
 exact bodyPost_ret (v:= .agg (icells {flat0 with kind:=7,name:=n,num:=r,unit:=u} nil nil nil nil).toArray) (jq8 Tryd.results67 rfl HL99.o) rfl ⟨⟨nil,nil,nil,rfl,FlatOK.nil _ _ _ rfl rfl rfl⟩,HA99.o⟩
theorem sumDef_any (E:Env) (b:Nat) (s:St) (W:World) (h:PW E b s W):
  Calls Tryd.prog 67 #[.pointer (some ⟨b,0,none⟩)] W fun e w'=>(∃sc sd sn,e= .returned (.agg (icells (sumDef s).1 sc sd sn nil).toArray)∧FlatOK W.heap.size (sumDef s).1 sc sd sn w')∧After E b (sumDef s).2 W w':=by
 obtain ⟨n,s1,h1⟩: ∃x s',name s=(x,s'):=⟨_,_,rfl⟩
 obtain ⟨u2,s2,h2⟩: ∃x s',expect [[61]] s1=(x,s'):=⟨_,_,rfl⟩
 obtain ⟨r,s3,h3⟩: ∃x s',ratio s2=(x,s'):=⟨_,_,rfl⟩
 obtain ⟨u,s4,h4⟩: ∃x s',name s3=(x,s'):=⟨_,_,rfl⟩
 obtain ⟨u5,s5,h5⟩: ∃x s',expect [[59]] s4=(x,s'):=⟨_,_,rfl⟩
 have hp:sumDef s=({flat0 with kind:=7,name:=n,num:=r,unit:=u},s5):=(jq3 h1).trans ((jx1 h2).trans ((jq3 h3).trans ((jq3 h4).trans ((jx1 h5).trans (rfl)))))
 rw [hp]
 exact sumDef_p1 E b s W h n s1 u2 s2 r s3 u s4 u5 s5 h1 h2 h3 h4 h5
theorem build_unit (n:Bytes) (w:World):(Instr.build 57 #[(0,.int .i64 3),(1,.string ⟨n.toArray⟩),(5,.int .i64 1)]).run Tryd.prog w= .ok (.agg (icells {flat0 with kind:=3,name:=n,word:=1} nil nil nil nil).toArray) w:=by kernel_rfl
theorem unit_p1 (E:Env) (b:Nat) (s:St) (W:World) (h:PW E b s W) (n:Bytes) (s1:St) (s2:St) (s3:St) (r:Ratio) (s4:St) (u:Bytes) (s5:St) (u6:Unit) (s6:St) (h1:name s=(n,s1)) (h2:acc [109,111,110,101,121] s1=(true,s2)) (h3:acc [61] s2=(true,s3)) (h4:ratio s3=(r,s4)) (h5:name s4=(u,s5)) (h6:expect [[59]] s5=(u6,s6)):
  Calls Tryd.prog 63 #[.pointer (some ⟨b,0,none⟩)] W fun e w'=>(∃sc sd sn,e= .returned (.agg (icells {flat0 with kind:=3,name:=n,word:=2,num:=r,unit:=u} sc sd sn nil).toArray)∧FlatOK W.heap.size {flat0 with kind:=3,name:=n,word:=2,num:=r,unit:=u} sc sd sn w')∧After E b s6 W w':=by
 have hbl:=h.2.2.1
 have HP:=hdd h;clear h
 have H1:=hdd h1;clear h1
 have H2:=hdd h2;clear h2
 have H3:=hdd h3;clear h3
 have H4:=hdd h4;clear h4
 have H5:=hdd h5;clear h5
 have H6:=hdd h6;clear h6
 go_enter Tryd.func63,Tryd.ntmps63
 go_wp2_with fail
 refine (name_any E b s _ ((After.start HP.o).alloc _).1).mono ?_
 rw [H1.o]
 rintro e w1 ⟨rfl,hA⟩
 have GR:Hid (I0 W w1):=hA.2.blk (jq5 (by simp)) (by omega)
 have GA:=hdd (((After.start HP.o).alloc _).trans hA)
 have hs1:W.heap.size<w1.heap.size:=by have:=hA.2.size;simp only [World.size_alloc] at this;omega
 clear hA
 revert GR GA;intro HR HA
 go_wp2_with (first|(refine wpList_build rfl 57 _ rfl #[(0,.int .i64 3),(1,.string ⟨n.toArray⟩),(5,.int .i64 1)] ?_ _ (build_unit n _) ?_;(simp [Act.eval]))|(refine jq4 rfl 57 _ _ rfl rfl (icells {flat0 with kind:=3,name:=n,word:=1} nil nil nil nil).toArray rfl (jq6 _ _ _ _ _) (ic1 ..) (by rfl) ?_))
 refine (jx0 E b s1 [109,111,110,101,121] _ (HA.o.alloc _).1).mono ?_
 rw [H2.o]
 rintro e w2 ⟨rfl,hA⟩
 have GR:Hid (I0 W w2):=hA.2.blk (jq9 HR.o _) (by omega)
 have GI:Hid (I4 w1.heap.size {flat0 with kind:=3,name:=n,word:=1} w2):=hA.2.blk (jq5 (by simp)) (by omega)
 have GA:=hdd ((HA.o.alloc _).trans hA)
 have hs2:W.heap.size<w2.heap.size:=by have:=hA.2.size;simp only [World.size_alloc] at this;omega
 clear hA
 clear HA HR
 revert GR GI GA;intro HR HI HA
 have kI_5:w2.cell? ⟨w1.heap.size,5,none⟩=some (.int .i64 1):=jq0 HI.o 5
 have fI_5:w2.frozen? ⟨w1.heap.size,5,none⟩=false:=jq1 HI.o 5
 go_wp2_with fail
 refine (jx0 E b s2 [61] _ (HA.o.set (i:=5) (by omega) (by omega) (.int .i64 2)).1).mono ?_
 rw [H3.o]
 rintro e w3 ⟨rfl,hA⟩
 have GR:Hid (I0 W w3):=hA.2.blk (jq2 HR.o (by omega) (.int .i64 2)) (by omega)
 have GI:Hid (I4 w1.heap.size {flat0 with kind:=3,name:=n,word:=2} w3):=hA.2.blk (IB.set_word HI.o 2) (by omega)
 have GA:=hdd ((HA.o.set (i:=5) (by omega) (by omega) (.int .i64 2)).trans hA)
 have hs3:W.heap.size<w3.heap.size:=by have:=hA.2.size;simp only [World.size_setCell] at this;omega
 clear hA
 try clear kI_5 fI_5
 clear HA HR HI
 revert GR GI GA;intro HR HI HA
 go_wp2_with fail
 refine (ratio_any E b s3 _ HA.o.1).mono ?_
 rw [H4.o]
 rintro e w4 ⟨rfl,hA⟩
 have GR:Hid (I0 W w4):=hA.2.blk HR.o (by omega)
 have GI:Hid (I4 w1.heap.size {flat0 with kind:=3,name:=n,word:=2} w4):=hA.2.blk HI.o (by omega)
 have GA:=hdd (HA.o.trans hA)
 have hs4:W.heap.size<w4.heap.size:=by have:=hA.2.size;omega
 clear hA
 clear HA HR HI
 revert GR GI GA;intro HR HI HA
 have kI_16:w4.cell? ⟨w1.heap.size,16,none⟩=some (.int .i64 0):=jq0 HI.o 16
 have fI_16:w4.frozen? ⟨w1.heap.size,16,none⟩=false:=jq1 HI.o 16
 have kI_17:w4.cell? ⟨w1.heap.size,17,none⟩=some (.int .i64 0):=jq0 HI.o 17
 have fI_17:w4.frozen? ⟨w1.heap.size,17,none⟩=false:=jq1 HI.o 17
 go_wp2_with fail
 refine (name_any E b s4 _ ((HA.o.set (i:=16) (by omega) (by omega) (.int .i64 (r.num:Int))).set (i:=17) (by omega) (by omega) (.int .i64 (r.den:Int))).1).mono ?_
 rw [H5.o]
 rintro e w5 ⟨rfl,hA⟩
 have GR:Hid (I0 W w5):=hA.2.blk (jq2 (jq2 HR.o (by omega) (.int .i64 (r.num:Int))) (by omega) (.int .i64 (r.den:Int))) (by omega)
 have GI:Hid (I4 w1.heap.size {flat0 with kind:=3,name:=n,word:=2,num:=r} w5):=hA.2.blk (IB.set_num HI.o r) (by omega)
 have GA:=hdd (((HA.o.set (i:=16) (by omega) (by omega) (.int .i64 (r.num:Int))).set (i:=17) (by omega) (by omega) (.int .i64 (r.den:Int))).trans hA)
 have hs5:W.heap.size<w5.heap.size:=by have:=hA.2.size;simp only [World.size_setCell] at this;omega
 clear hA
 try clear kI_16 fI_16 kI_17 fI_17
 clear HA HR HI
 revert GR GI GA;intro HR HI HA
 have kI_18:w5.cell? ⟨w1.heap.size,18,none⟩=some (.string ⟨#[]⟩):=jq0 HI.o 18
 have fI_18:w5.frozen? ⟨w1.heap.size,18,none⟩=false:=jq1 HI.o 18
 go_wp2_with fail
 refine (expect1 E b s5 [59] _ _ (by simp) (HA.o.set (i:=18) (by omega) (by omega) (.string ⟨u.toArray⟩)).1).mono ?_
 rw [H6.o]
 rintro e w6 ⟨rfl,hA⟩
 have GR:Hid (I0 W w6):=hA.2.blk (jq2 HR.o (by omega) (.string ⟨u.toArray⟩)) (by omega)
 have GI:Hid (I4 w1.heap.size {flat0 with kind:=3,name:=n,word:=2,num:=r,unit:=u} w6):=hA.2.blk (IB.set_unit HI.o u) (by omega)
 have GA:=hdd ((HA.o.set (i:=18) (by omega) (by omega) (.string ⟨u.toArray⟩)).trans hA)
 have hs6:W.heap.size<w6.heap.size:=by have:=hA.2.size;simp only [World.size_setCell] at this;omega
 clear hA
 try clear kI_18 fI_18
 clear HA HR HI
 revert GR GI GA;intro HR HI HA
 obtain ⟨w99,hw99,hA99,hl99,ho99⟩:=item_end (g:=flat0) (a1:=nil) (a2:=nil) (a3:=nil) (a4:=nil) HR.o HA.o hbl {flat0 with kind:=3,name:=n,word:=2,num:=r,unit:=u} nil nil nil nil
 have HW99:=hdd hw99;clear hw99
 have HA99:=hdd hA99;clear hA99
 have HL99:=hdd hl99;clear hl99 ho99
 have HI9:Hid (I4 w1.heap.size {flat0 with kind:=3,name:=n,word:=2,num:=r,unit:=u} _):=HI.o
 have HR9:Hid (I0 W _):=HR.o
 go_wp2_with (first|(refine wpList_load_mid rfl 57 _ rfl w1.heap.size 0 rfl (icells {flat0 with kind:=3,name:=n,word:=2,num:=r,unit:=u} nil nil nil nil) _ HI9.o.range Tryd.underlying57 rfl (jx6 _ _ _ _ _) ?_)|(refine wpList_store_mid rfl 57 _ _ rfl W.heap.size 0 (icells {flat0 with kind:=3,name:=n,word:=2,num:=r,unit:=u} nil nil nil nil).toArray rfl rfl (HR9.o.there' _ _ _ _ _) (jq6 _ _ _ _ _) (ic1 ..) ?_;rw [HW99.o]))
 exact bodyPost_ret (v:= .agg (icells {flat0 with kind:=3,name:=n,word:=2,num:=r,unit:=u} nil nil nil nil).toArray) (jq8 Tryd.results63 rfl HL99.o) rfl ⟨⟨nil,nil,nil,rfl,FlatOK.nil _ _ _ rfl rfl rfl⟩,HA99.o⟩
theorem unit_p2 (E:Env) (b:Nat) (s:St) (W:World) (h:PW E b s W) (n:Bytes) (s1:St) (s2:St) (s3:St) (u4:Unit) (s4:St) (h1:name s=(n,s1)) (h2:acc [109,111,110,101,121] s1=(true,s2)) (h3:acc [61] s2=(false,s3)) (h4:expect [[59]] s3=(u4,s4)):
  Calls Tryd.prog 63 #[.pointer (some ⟨b,0,none⟩)] W fun e w'=>(∃sc sd sn,e= .returned (.agg (icells {flat0 with kind:=3,name:=n,word:=2} sc sd sn nil).toArray)∧FlatOK W.heap.size {flat0 with kind:=3,name:=n,word:=2} sc sd sn w')∧After E b s4 W w':=by
 have hbl:=h.2.2.1
 have HP:=hdd h;clear h
 have H1:=hdd h1;clear h1
 have H2:=hdd h2;clear h2
 have H3:=hdd h3;clear h3
 have H4:=hdd h4;clear h4
 go_enter Tryd.func63,Tryd.ntmps63
 go_wp2_with fail
 refine (name_any E b s _ ((After.start HP.o).alloc _).1).mono ?_
 rw [H1.o]
 rintro e w1 ⟨rfl,hA⟩
 have GR:Hid (I0 W w1):=hA.2.blk (jq5 (by simp)) (by omega)
 have GA:=hdd (((After.start HP.o).alloc _).trans hA)
 have hs1:W.heap.size<w1.heap.size:=by have:=hA.2.size;simp only [World.size_alloc] at this;omega
 clear hA
 revert GR GA;intro HR HA
 go_wp2_with (first|(refine wpList_build rfl 57 _ rfl #[(0,.int .i64 3),(1,.string ⟨n.toArray⟩),(5,.int .i64 1)] ?_ _ (build_unit n _) ?_;(simp [Act.eval]))|(refine jq4 rfl 57 _ _ rfl rfl (icells {flat0 with kind:=3,name:=n,word:=1} nil nil nil nil).toArray rfl (jq6 _ _ _ _ _) (ic1 ..) (by rfl) ?_))
 refine (jx0 E b s1 [109,111,110,101,121] _ (HA.o.alloc _).1).mono ?_
 rw [H2.o]
 rintro e w2 ⟨rfl,hA⟩
 have GR:Hid (I0 W w2):=hA.2.blk (jq9 HR.o _) (by omega)
 have GI:Hid (I4 w1.heap.size {flat0 with kind:=3,name:=n,word:=1} w2):=hA.2.blk (jq5 (by simp)) (by omega)
 have GA:=hdd ((HA.o.alloc _).trans hA)
 have hs2:W.heap.size<w2.heap.size:=by have:=hA.2.size;simp only [World.size_alloc] at this;omega
 clear hA
 clear HA HR
 revert GR GI GA;intro HR HI HA
 have kI_5:w2.cell? ⟨w1.heap.size,5,none⟩=some (.int .i64 1):=jq0 HI.o 5
 have fI_5:w2.frozen? ⟨w1.heap.size,5,none⟩=false:=jq1 HI.o 5
 go_wp2_with fail
 refine (jx0 E b s2 [61] _ (HA.o.set (i:=5) (by omega) (by omega) (.int .i64 2)).1).mono ?_
 rw [H3.o]
 rintro e w3 ⟨rfl,hA⟩
 have GR:Hid (I0 W w3):=hA.2.blk (jq2 HR.o (by omega) (.int .i64 2)) (by omega)
 have GI:Hid (I4 w1.heap.size {flat0 with kind:=3,name:=n,word:=2} w3):=hA.2.blk (IB.set_word HI.o 2) (by omega)
 have GA:=hdd ((HA.o.set (i:=5) (by omega) (by omega) (.int .i64 2)).trans hA)
 have hs3:W.heap.size<w3.heap.size:=by have:=hA.2.size;simp only [World.size_setCell] at this;omega
 clear hA
 try clear kI_5 fI_5
 clear HA HR HI
 revert GR GI GA;intro HR HI HA
 go_wp2_with fail
 refine (expect1 E b s3 [59] _ _ (by simp) HA.o.1).mono ?_
 rw [H4.o]
 rintro e w4 ⟨rfl,hA⟩
 have GR:Hid (I0 W w4):=hA.2.blk HR.o (by omega)
 have GI:Hid (I4 w1.heap.size {flat0 with kind:=3,name:=n,word:=2} w4):=hA.2.blk HI.o (by omega)
 have GA:=hdd (HA.o.trans hA)
 have hs4:W.heap.size<w4.heap.size:=by have:=hA.2.size;omega
 clear hA
 clear HA HR HI
 revert GR GI GA;intro HR HI HA
 obtain ⟨w99,hw99,hA99,hl99,ho99⟩:=item_end (g:=flat0) (a1:=nil) (a2:=nil) (a3:=nil) (a4:=nil) HR.o HA.o hbl {flat0 with kind:=3,name:=n,word:=2} nil nil nil nil
 have HW99:=hdd hw99;clear hw99
 have HA99:=hdd hA99;clear hA99
 have HL99:=hdd hl99;clear hl99 ho99
 have HI9:Hid (I4 w1.heap.size {flat0 with kind:=3,name:=n,word:=2} _):=HI.o
 have HR9:Hid (I0 W _):=HR.o
 go_wp2_with (first|(refine wpList_load_mid rfl 57 _ rfl w1.heap.size 0 rfl (icells {flat0 with kind:=3,name:=n,word:=2} nil nil nil nil) _ HI9.o.range Tryd.underlying57 rfl (jx6 _ _ _ _ _) ?_)|(refine wpList_store_mid rfl 57 _ _ rfl W.heap.size 0 (icells {flat0 with kind:=3,name:=n,word:=2} nil nil nil nil).toArray rfl rfl (HR9.o.there' _ _ _ _ _) (jq6 _ _ _ _ _) (ic1 ..) ?_;rw [HW99.o]))
 exact bodyPost_ret (v:= .agg (icells {flat0 with kind:=3,name:=n,word:=2} nil nil nil nil).toArray) (jq8 Tryd.results63 rfl HL99.o) rfl ⟨⟨nil,nil,nil,rfl,FlatOK.nil _ _ _ rfl rfl rfl⟩,HA99.o⟩
theorem unit_p3 (E:Env) (b:Nat) (s:St) (W:World) (h:PW E b s W) (n:Bytes) (s1:St) (s2:St) (u3:Unit) (s3:St) (s4:St) (r:Ratio) (s5:St) (u:Bytes) (s6:St) (u7:Unit) (s7:St) (h1:name s=(n,s1)) (h2:acc [109,111,110,101,121] s1=(false,s2)) (h3:expect [[103,111,111,100,115]] s2=(u3,s3)) (h4:acc [61] s3=(true,s4)) (h5:ratio s4=(r,s5)) (h6:name s5=(u,s6)) (h7:expect [[59]] s6=(u7,s7)):
  Calls Tryd.prog 63 #[.pointer (some ⟨b,0,none⟩)] W fun e w'=>(∃sc sd sn,e= .returned (.agg (icells {flat0 with kind:=3,name:=n,word:=1,num:=r,unit:=u} sc sd sn nil).toArray)∧FlatOK W.heap.size {flat0 with kind:=3,name:=n,word:=1,num:=r,unit:=u} sc sd sn w')∧After E b s7 W w':=by
 have hbl:=h.2.2.1
 have HP:=hdd h;clear h
 have H1:=hdd h1;clear h1
 have H2:=hdd h2;clear h2
 have H3:=hdd h3;clear h3
 have H4:=hdd h4;clear h4
 have H5:=hdd h5;clear h5
 have H6:=hdd h6;clear h6
 have H7:=hdd h7;clear h7
 go_enter Tryd.func63,Tryd.ntmps63
 go_wp2_with fail
 refine (name_any E b s _ ((After.start HP.o).alloc _).1).mono ?_
 rw [H1.o]
 rintro e w1 ⟨rfl,hA⟩
 have GR:Hid (I0 W w1):=hA.2.blk (jq5 (by simp)) (by omega)
 have GA:=hdd (((After.start HP.o).alloc _).trans hA)
 have hs1:W.heap.size<w1.heap.size:=by have:=hA.2.size;simp only [World.size_alloc] at this;omega
 clear hA
 revert GR GA;intro HR HA
 go_wp2_with (first|(refine wpList_build rfl 57 _ rfl #[(0,.int .i64 3),(1,.string ⟨n.toArray⟩),(5,.int .i64 1)] ?_ _ (build_unit n _) ?_;(simp [Act.eval]))|(refine jq4 rfl 57 _ _ rfl rfl (icells {flat0 with kind:=3,name:=n,word:=1} nil nil nil nil).toArray rfl (jq6 _ _ _ _ _) (ic1 ..) (by rfl) ?_))
 refine (jx0 E b s1 [109,111,110,101,121] _ (HA.o.alloc _).1).mono ?_
 rw [H2.o]
 rintro e w2 ⟨rfl,hA⟩
 have GR:Hid (I0 W w2):=hA.2.blk (jq9 HR.o _) (by omega)
 have GI:Hid (I4 w1.heap.size {flat0 with kind:=3,name:=n,word:=1} w2):=hA.2.blk (jq5 (by simp)) (by omega)
 have GA:=hdd ((HA.o.alloc _).trans hA)
 have hs2:W.heap.size<w2.heap.size:=by have:=hA.2.size;simp only [World.size_alloc] at this;omega
 clear hA
 clear HA HR
 revert GR GI GA;intro HR HI HA
 go_wp2_with fail
 refine (expect1 E b s2 [103,111,111,100,115] _ _ (by simp) HA.o.1).mono ?_
 rw [H3.o]
 rintro e w3 ⟨rfl,hA⟩
 have GR:Hid (I0 W w3):=hA.2.blk HR.o (by omega)
 have GI:Hid (I4 w1.heap.size {flat0 with kind:=3,name:=n,word:=1} w3):=hA.2.blk HI.o (by omega)
 have GA:=hdd (HA.o.trans hA)
 have hs3:W.heap.size<w3.heap.size:=by have:=hA.2.size;omega
 clear hA
 clear HA HR HI
 revert GR GI GA;intro HR HI HA
 go_wp2_with fail
 refine (jx0 E b s3 [61] _ HA.o.1).mono ?_
 rw [H4.o]
 rintro e w4 ⟨rfl,hA⟩
 have GR:Hid (I0 W w4):=hA.2.blk HR.o (by omega)
 have GI:Hid (I4 w1.heap.size {flat0 with kind:=3,name:=n,word:=1} w4):=hA.2.blk HI.o (by omega)
 have GA:=hdd (HA.o.trans hA)
 have hs4:W.heap.size<w4.heap.size:=by have:=hA.2.size;omega
 clear hA
 clear HA HR HI
 revert GR GI GA;intro HR HI HA
 go_wp2_with fail
 refine (ratio_any E b s4 _ HA.o.1).mono ?_
 rw [H5.o]
 rintro e w5 ⟨rfl,hA⟩
 have GR:Hid (I0 W w5):=hA.2.blk HR.o (by omega)
 have GI:Hid (I4 w1.heap.size {flat0 with kind:=3,name:=n,word:=1} w5):=hA.2.blk HI.o (by omega)
 have GA:=hdd (HA.o.trans hA)
 have hs5:W.heap.size<w5.heap.size:=by have:=hA.2.size;omega
 clear hA
 clear HA HR HI
 revert GR GI GA;intro HR HI HA
 have kI_16:w5.cell? ⟨w1.heap.size,16,none⟩=some (.int .i64 0):=jq0 HI.o 16
 have fI_16:w5.frozen? ⟨w1.heap.size,16,none⟩=false:=jq1 HI.o 16
 have kI_17:w5.cell? ⟨w1.heap.size,17,none⟩=some (.int .i64 0):=jq0 HI.o 17
 have fI_17:w5.frozen? ⟨w1.heap.size,17,none⟩=false:=jq1 HI.o 17
 go_wp2_with fail
 refine (name_any E b s5 _ ((HA.o.set (i:=16) (by omega) (by omega) (.int .i64 (r.num:Int))).set (i:=17) (by omega) (by omega) (.int .i64 (r.den:Int))).1).mono ?_
 rw [H6.o]
 rintro e w6 ⟨rfl,hA⟩
 have GR:Hid (I0 W w6):=hA.2.blk (jq2 (jq2 HR.o (by omega) (.int .i64 (r.num:Int))) (by omega) (.int .i64 (r.den:Int))) (by omega)
 have GI:Hid (I4 w1.heap.size {flat0 with kind:=3,name:=n,word:=1,num:=r} w6):=hA.2.blk (IB.set_num HI.o r) (by omega)
 have GA:=hdd (((HA.o.set (i:=16) (by omega) (by omega) (.int .i64 (r.num:Int))).set (i:=17) (by omega) (by omega) (.int .i64 (r.den:Int))).trans hA)
 have hs6:W.heap.size<w6.heap.size:=by have:=hA.2.size;simp only [World.size_setCell] at this;omega
 clear hA
 try clear kI_16 fI_16 kI_17 fI_17
 clear HA HR HI
 revert GR GI GA;intro HR HI HA
 have kI_18:w6.cell? ⟨w1.heap.size,18,none⟩=some (.string ⟨#[]⟩):=jq0 HI.o 18
 have fI_18:w6.frozen? ⟨w1.heap.size,18,none⟩=false:=jq1 HI.o 18
 go_wp2_with fail
 refine (expect1 E b s6 [59] _ _ (by simp) (HA.o.set (i:=18) (by omega) (by omega) (.string ⟨u.toArray⟩)).1).mono ?_
 rw [H7.o]
 rintro e w7 ⟨rfl,hA⟩
 have GR:Hid (I0 W w7):=hA.2.blk (jq2 HR.o (by omega) (.string ⟨u.toArray⟩)) (by omega)
 have GI:Hid (I4 w1.heap.size {flat0 with kind:=3,name:=n,word:=1,num:=r,unit:=u} w7):=hA.2.blk (IB.set_unit HI.o u) (by omega)
 have GA:=hdd ((HA.o.set (i:=18) (by omega) (by omega) (.string ⟨u.toArray⟩)).trans hA)
 have hs7:W.heap.size<w7.heap.size:=by have:=hA.2.size;simp only [World.size_setCell] at this;omega
 clear hA
 try clear kI_18 fI_18
 clear HA HR HI
 revert GR GI GA;intro HR HI HA
 obtain ⟨w99,hw99,hA99,hl99,ho99⟩:=item_end (g:=flat0) (a1:=nil) (a2:=nil) (a3:=nil) (a4:=nil) HR.o HA.o hbl {flat0 with kind:=3,name:=n,word:=1,num:=r,unit:=u} nil nil nil nil
 have HW99:=hdd hw99;clear hw99
 have HA99:=hdd hA99;clear hA99
 have HL99:=hdd hl99;clear hl99 ho99
 have HI9:Hid (I4 w1.heap.size {flat0 with kind:=3,name:=n,word:=1,num:=r,unit:=u} _):=HI.o
 have HR9:Hid (I0 W _):=HR.o
 go_wp2_with (first|(refine wpList_load_mid rfl 57 _ rfl w1.heap.size 0 rfl (icells {flat0 with kind:=3,name:=n,word:=1,num:=r,unit:=u} nil nil nil nil) _ HI9.o.range Tryd.underlying57 rfl (jx6 _ _ _ _ _) ?_)|(refine wpList_store_mid rfl 57 _ _ rfl W.heap.size 0 (icells {flat0 with kind:=3,name:=n,word:=1,num:=r,unit:=u} nil nil nil nil).toArray rfl rfl (HR9.o.there' _ _ _ _ _) (jq6 _ _ _ _ _) (ic1 ..) ?_;rw [HW99.o]))
 exact bodyPost_ret (v:= .agg (icells {flat0 with kind:=3,name:=n,word:=1,num:=r,unit:=u} nil nil nil nil).toArray) (jq8 Tryd.results63 rfl HL99.o) rfl ⟨⟨nil,nil,nil,rfl,FlatOK.nil _ _ _ rfl rfl rfl⟩,HA99.o⟩
theorem unit_p4 (E:Env) (b:Nat) (s:St) (W:World) (h:PW E b s W) (n:Bytes) (s1:St) (s2:St) (u3:Unit) (s3:St) (s4:St) (u5:Unit) (s5:St) (h1:name s=(n,s1)) (h2:acc [109,111,110,101,121] s1=(false,s2)) (h3:expect [[103,111,111,100,115]] s2=(u3,s3)) (h4:acc [61] s3=(false,s4)) (h5:expect [[59]] s4=(u5,s5)):
  Calls Tryd.prog 63 #[.pointer (some ⟨b,0,none⟩)] W fun e w'=>(∃sc sd sn,e= .returned (.agg (icells {flat0 with kind:=3,name:=n,word:=1} sc sd sn nil).toArray)∧FlatOK W.heap.size {flat0 with kind:=3,name:=n,word:=1} sc sd sn w')∧After E b s5 W w':=by
 have hbl:=h.2.2.1
 have HP:=hdd h;clear h
 have H1:=hdd h1;clear h1
 have H2:=hdd h2;clear h2
 have H3:=hdd h3;clear h3
 have H4:=hdd h4;clear h4
 have H5:=hdd h5;clear h5
 go_enter Tryd.func63,Tryd.ntmps63
 go_wp2_with fail
 refine (name_any E b s _ ((After.start HP.o).alloc _).1).mono ?_
 rw [H1.o]
 rintro e w1 ⟨rfl,hA⟩
 have GR:Hid (I0 W w1):=hA.2.blk (jq5 (by simp)) (by omega)
 have GA:=hdd (((After.start HP.o).alloc _).trans hA)
 have hs1:W.heap.size<w1.heap.size:=by have:=hA.2.size;simp only [World.size_alloc] at this;omega
 clear hA
 revert GR GA;intro HR HA
 go_wp2_with (first|(refine wpList_build rfl 57 _ rfl #[(0,.int .i64 3),(1,.string ⟨n.toArray⟩),(5,.int .i64 1)] ?_ _ (build_unit n _) ?_;(simp [Act.eval]))|(refine jq4 rfl 57 _ _ rfl rfl (icells {flat0 with kind:=3,name:=n,word:=1} nil nil nil nil).toArray rfl (jq6 _ _ _ _ _) (ic1 ..) (by rfl) ?_))
 refine (jx0 E b s1 [109,111,110,101,121] _ (HA.o.alloc _).1).mono ?_
 rw [H2.o]
 rintro e w2 ⟨rfl,hA⟩
 have GR:Hid (I0 W w2):=hA.2.blk (jq9 HR.o _) (by omega)
 have GI:Hid (I4 w1.heap.size {flat0 with kind:=3,name:=n,word:=1} w2):=hA.2.blk (jq5 (by simp)) (by omega)
 have GA:=hdd ((HA.o.alloc _).trans hA)
 have hs2:W.heap.size<w2.heap.size:=by have:=hA.2.size;simp only [World.size_alloc] at this;omega
 clear hA
 clear HA HR
 revert GR GI GA;intro HR HI HA
 go_wp2_with fail
 refine (expect1 E b s2 [103,111,111,100,115] _ _ (by simp) HA.o.1).mono ?_
 rw [H3.o]
 rintro e w3 ⟨rfl,hA⟩
 have GR:Hid (I0 W w3):=hA.2.blk HR.o (by omega)
 have GI:Hid (I4 w1.heap.size {flat0 with kind:=3,name:=n,word:=1} w3):=hA.2.blk HI.o (by omega)
 have GA:=hdd (HA.o.trans hA)
 have hs3:W.heap.size<w3.heap.size:=by have:=hA.2.size;omega
 clear hA
 clear HA HR HI
 revert GR GI GA;intro HR HI HA
 go_wp2_with fail
 refine (jx0 E b s3 [61] _ HA.o.1).mono ?_
 rw [H4.o]
 rintro e w4 ⟨rfl,hA⟩
 have GR:Hid (I0 W w4):=hA.2.blk HR.o (by omega)
 have GI:Hid (I4 w1.heap.size {flat0 with kind:=3,name:=n,word:=1} w4):=hA.2.blk HI.o (by omega)
 have GA:=hdd (HA.o.trans hA)
 have hs4:W.heap.size<w4.heap.size:=by have:=hA.2.size;omega
 clear hA
 clear HA HR HI
 revert GR GI GA;intro HR HI HA
 go_wp2_with fail
 refine (expect1 E b s4 [59] _ _ (by simp) HA.o.1).mono ?_
 rw [H5.o]
 rintro e w5 ⟨rfl,hA⟩
 have GR:Hid (I0 W w5):=hA.2.blk HR.o (by omega)
 have GI:Hid (I4 w1.heap.size {flat0 with kind:=3,name:=n,word:=1} w5):=hA.2.blk HI.o (by omega)
 have GA:=hdd (HA.o.trans hA)
 have hs5:W.heap.size<w5.heap.size:=by have:=hA.2.size;omega
 clear hA
 clear HA HR HI
 revert GR GI GA;intro HR HI HA
 obtain ⟨w99,hw99,hA99,hl99,ho99⟩:=item_end (g:=flat0) (a1:=nil) (a2:=nil) (a3:=nil) (a4:=nil) HR.o HA.o hbl {flat0 with kind:=3,name:=n,word:=1} nil nil nil nil
 have HW99:=hdd hw99;clear hw99
 have HA99:=hdd hA99;clear hA99
 have HL99:=hdd hl99;clear hl99 ho99
 have HI9:Hid (I4 w1.heap.size {flat0 with kind:=3,name:=n,word:=1} _):=HI.o
 have HR9:Hid (I0 W _):=HR.o
 go_wp2_with (first|(refine wpList_load_mid rfl 57 _ rfl w1.heap.size 0 rfl (icells {flat0 with kind:=3,name:=n,word:=1} nil nil nil nil) _ HI9.o.range Tryd.underlying57 rfl (jx6 _ _ _ _ _) ?_)|(refine wpList_store_mid rfl 57 _ _ rfl W.heap.size 0 (icells {flat0 with kind:=3,name:=n,word:=1} nil nil nil nil).toArray rfl rfl (HR9.o.there' _ _ _ _ _) (jq6 _ _ _ _ _) (ic1 ..) ?_;rw [HW99.o]))
 exact bodyPost_ret (v:= .agg (icells {flat0 with kind:=3,name:=n,word:=1} nil nil nil nil).toArray) (jq8 Tryd.results63 rfl HL99.o) rfl ⟨⟨nil,nil,nil,rfl,FlatOK.nil _ _ _ rfl rfl rfl⟩,HA99.o⟩
theorem unit_any (E:Env) (b:Nat) (s:St) (W:World) (h:PW E b s W):
  Calls Tryd.prog 63 #[.pointer (some ⟨b,0,none⟩)] W fun e w'=>(∃sc sd sn,e= .returned (.agg (icells (unit s).1 sc sd sn nil).toArray)∧FlatOK W.heap.size (unit s).1 sc sd sn w')∧After E b (unit s).2 W w':=by
 obtain ⟨n,s1,h1⟩: ∃x s',name s=(x,s'):=⟨_,_,rfl⟩
 obtain ⟨b2,s2,h2⟩: ∃x s',acc [109,111,110,101,121] s1=(x,s'):=⟨_,_,rfl⟩
 cases b2 with
 |true=>
  obtain ⟨b3,s3,h3⟩: ∃x s',acc [61] s2=(x,s'):=⟨_,_,rfl⟩
  cases b3 with
  |true=>
   obtain ⟨r,s4,h4⟩: ∃x s',ratio s3=(x,s'):=⟨_,_,rfl⟩
   obtain ⟨u,s5,h5⟩: ∃x s',name s4=(x,s'):=⟨_,_,rfl⟩
   obtain ⟨u6,s6,h6⟩: ∃x s',expect [[59]] s5=(x,s'):=⟨_,_,rfl⟩
   have hp:unit s=({flat0 with kind:=3,name:=n,word:=2,num:=r,unit:=u},s6):=(jq3 h1).trans ((jz1 h2).trans ((jz1 h3).trans ((jq3 h4).trans ((jq3 h5).trans ((jx1 h6).trans (rfl))))))
   rw [hp]
   exact unit_p1 E b s W h n s1 s2 s3 r s4 u s5 u6 s6 h1 h2 h3 h4 h5 h6
  |false=>
   obtain ⟨u4,s4,h4⟩: ∃x s',expect [[59]] s3=(x,s'):=⟨_,_,rfl⟩
   have hp:unit s=({flat0 with kind:=3,name:=n,word:=2},s4):=(jq3 h1).trans ((jz1 h2).trans ((jx9 h3).trans ((jx1 h4).trans (rfl))))
   rw [hp]
   exact unit_p2 E b s W h n s1 s2 s3 u4 s4 h1 h2 h3 h4
 |false=>
  obtain ⟨u3,s3,h3⟩: ∃x s',expect [[103,111,111,100,115]] s2=(x,s'):=⟨_,_,rfl⟩
  obtain ⟨b4,s4,h4⟩: ∃x s',acc [61] s3=(x,s'):=⟨_,_,rfl⟩
  cases b4 with
  |true=>
   obtain ⟨r,s5,h5⟩: ∃x s',ratio s4=(x,s'):=⟨_,_,rfl⟩
   obtain ⟨u,s6,h6⟩: ∃x s',name s5=(x,s'):=⟨_,_,rfl⟩
   obtain ⟨u7,s7,h7⟩: ∃x s',expect [[59]] s6=(x,s'):=⟨_,_,rfl⟩
   have hp:unit s=({flat0 with kind:=3,name:=n,word:=1,num:=r,unit:=u},s7):=(jq3 h1).trans ((jx9 h2).trans ((jx1 h3).trans ((jz1 h4).trans ((jq3 h5).trans ((jq3 h6).trans ((jx1 h7).trans (rfl)))))))
   rw [hp]
   exact unit_p3 E b s W h n s1 s2 u3 s3 s4 r s5 u s6 u7 s7 h1 h2 h3 h4 h5 h6 h7
  |false=>
   obtain ⟨u5,s5,h5⟩: ∃x s',expect [[59]] s4=(x,s'):=⟨_,_,rfl⟩
   have hp:unit s=({flat0 with kind:=3,name:=n,word:=1},s5):=(jq3 h1).trans ((jx9 h2).trans ((jx1 h3).trans ((jx9 h4).trans ((jx1 h5).trans (rfl)))))
   rw [hp]
   exact unit_p4 E b s W h n s1 s2 u3 s3 s4 u5 s5 h1 h2 h3 h4 h5
end Go.Proofs.YtfaflipphkoiiaaDoor.Pr
