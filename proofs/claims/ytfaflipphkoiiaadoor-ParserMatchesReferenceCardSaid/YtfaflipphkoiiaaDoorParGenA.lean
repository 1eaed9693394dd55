/-
  What some methods of the parser return (printed by parwalk.py): ratio, date, days, span. Methods of the parser that write an item behind a pointer: their frame.
-/
import Derived.Test.YtfaflipphkoiiaaDoorPkParA
set_option maxHeartbeats 64000000
set_option maxRecDepth 100000
set_option linter.unusedVariables false
namespace Go.Proofs.YtfaflipphkoiiaaDoor.Pr
open Go.RowKit Mem
open Lx (Tok)
theorem ratio_p1 (E:Env) (b:Nat) (s:St) (W:World) (h:PW E b s W) (n:Nat) (s1:St) (s2:St) (d:Nat) (s3:St) (h1:number s=(n,s1)) (h2:acc [47] s1=(true,s2)) (h3:number s2=(d,s3)):
  Calls Tryd.prog 93 #[.pointer (some ⟨b,0,none⟩)] W fun e w'=>e= .returned (.agg #[.int .i64 (n:Int),.int .i64 (d:Int)])∧After E b s3 W w':=by
 have hbl:=h.2.2.1
 have HP:=hdd h;clear h
 have H1:=hdd h1;clear h1
 have H2:=hdd h2;clear h2
 have H3:=hdd h3;clear h3
 go_enter Tryd.func93,Tryd.ntmps93
 go_wp2_with fail
 refine (number_any E b s _ ((After.start HP.o).alloc _).1).mono ?_
 rw [H1.o]
 rintro e w1 ⟨rfl,hA⟩
 have GR:Hid (w1.heap[W.heap.size]?=some (.cells #[.int .i64 0,.int .i64 0] 52 (0,0))):=hA.2.blk (jq5 (by simp)) (by omega)
 have GA:=hdd (((After.start HP.o).alloc _).trans hA)
 have hs1:W.heap.size<w1.heap.size:=by have:=hA.2.size;simp only [World.size_alloc] at this;omega
 clear hA
 revert GR GA;intro HR HA
 go_wp2_with fail
 refine (jx0 E b s1 [47] _ (HA.o.alloc _).1).mono ?_
 rw [H2.o]
 rintro e w2 ⟨rfl,hA⟩
 have GR:Hid (w2.heap[W.heap.size]?=some (.cells #[.int .i64 0,.int .i64 0] 52 (0,0))):=hA.2.blk (jq9 HR.o _) (by omega)
 have Gr:Hid (w2.heap[w1.heap.size]?=some (.cells #[.int .i64 (n:Int),.int .i64 1] 52 (0,0))):=hA.2.blk (jq5 (by simp)) (by omega)
 have GA:=hdd ((HA.o.alloc _).trans hA)
 have hs2:W.heap.size<w2.heap.size:=by have:=hA.2.size;simp only [World.size_alloc] at this;omega
 clear hA
 clear HA HR
 revert GR Gr GA;intro HR Hr HA
 go_wp2_with fail
 refine (number_any E b s2 _ HA.o.1).mono ?_
 rw [H3.o]
 rintro e w3 ⟨rfl,hA⟩
 have GR:Hid (w3.heap[W.heap.size]?=some (.cells #[.int .i64 0,.int .i64 0] 52 (0,0))):=hA.2.blk HR.o (by omega)
 have Gr:Hid (w3.heap[w1.heap.size]?=some (.cells #[.int .i64 (n:Int),.int .i64 1] 52 (0,0))):=hA.2.blk Hr.o (by omega)
 have GA:=hdd (HA.o.trans hA)
 have hs3:W.heap.size<w3.heap.size:=by have:=hA.2.size;omega
 clear hA
 clear HA HR Hr
 revert GR Gr GA;intro HR Hr HA
 have kR_0:w3.cell? ⟨W.heap.size,0,none⟩=some (.int .i64 0):=jq0 HR.o 0
 have fR_0:w3.frozen? ⟨W.heap.size,0,none⟩=false:=jq1 HR.o 0
 have kR_1:w3.cell? ⟨W.heap.size,1,none⟩=some (.int .i64 0):=jq0 HR.o 1
 have fR_1:w3.frozen? ⟨W.heap.size,1,none⟩=false:=jq1 HR.o 1
 have kr_0:w3.cell? ⟨w1.heap.size,0,none⟩=some (.int .i64 (n:Int)):=jq0 Hr.o 0
 have fr_0:w3.frozen? ⟨w1.heap.size,0,none⟩=false:=jq1 Hr.o 0
 have kr_1:w3.cell? ⟨w1.heap.size,1,none⟩=some (.int .i64 1):=jq0 Hr.o 1
 have fr_1:w3.frozen? ⟨w1.heap.size,1,none⟩=false:=jq1 Hr.o 1
 go_wp2_with fail
 exact bodyPost_ret (v:= .agg #[.int .i64 (n:Int),.int .i64 (d:Int)]) (jq8 Tryd.results93 rfl (jj4 (cs:= [.int .i64 (n:Int),.int .i64 (d:Int)]) Tryd.underlying52 rfl (by kernel_rfl) (jx4 (jx4 (jq2 HR.o (by omega) (.int .i64 (d:Int))) 0 (.int .i64 (n:Int))) 1 (.int .i64 (d:Int))))) rfl ⟨rfl,(((HA.o.set (i:=1) (by omega) (by omega) (.int .i64 (d:Int))).set (i:=0) (Nat.le_refl _) hbl (.int .i64 (n:Int))).set (i:=1) (Nat.le_refl _) hbl (.int .i64 (d:Int)))⟩
theorem ratio_p2 (E:Env) (b:Nat) (s:St) (W:World) (h:PW E b s W) (n:Nat) (s1:St) (s2:St) (h1:number s=(n,s1)) (h2:acc [47] s1=(false,s2)):
  Calls Tryd.prog 93 #[.pointer (some ⟨b,0,none⟩)] W fun e w'=>e= .returned (.agg #[.int .i64 (n:Int),.int .i64 1])∧After E b s2 W w':=by
 have hbl:=h.2.2.1
 have HP:=hdd h;clear h
 have H1:=hdd h1;clear h1
 have H2:=hdd h2;clear h2
 go_enter Tryd.func93,Tryd.ntmps93
 go_wp2_with fail
 refine (number_any E b s _ ((After.start HP.o).alloc _).1).mono ?_
 rw [H1.o]
 rintro e w1 ⟨rfl,hA⟩
 have GR:Hid (w1.heap[W.heap.size]?=some (.cells #[.int .i64 0,.int .i64 0] 52 (0,0))):=hA.2.blk (jq5 (by simp)) (by omega)
 have GA:=hdd (((After.start HP.o).alloc _).trans hA)
 have hs1:W.heap.size<w1.heap.size:=by have:=hA.2.size;simp only [World.size_alloc] at this;omega
 clear hA
 revert GR GA;intro HR HA
 go_wp2_with fail
 refine (jx0 E b s1 [47] _ (HA.o.alloc _).1).mono ?_
 rw [H2.o]
 rintro e w2 ⟨rfl,hA⟩
 have GR:Hid (w2.heap[W.heap.size]?=some (.cells #[.int .i64 0,.int .i64 0] 52 (0,0))):=hA.2.blk (jq9 HR.o _) (by omega)
 have Gr:Hid (w2.heap[w1.heap.size]?=some (.cells #[.int .i64 (n:Int),.int .i64 1] 52 (0,0))):=hA.2.blk (jq5 (by simp)) (by omega)
 have GA:=hdd ((HA.o.alloc _).trans hA)
 have hs2:W.heap.size<w2.heap.size:=by have:=hA.2.size;simp only [World.size_alloc] at this;omega
 clear hA
 clear HA HR
 revert GR Gr GA;intro HR Hr HA
 have kR_0:w2.cell? ⟨W.heap.size,0,none⟩=some (.int .i64 0):=jq0 HR.o 0
 have fR_0:w2.frozen? ⟨W.heap.size,0,none⟩=false:=jq1 HR.o 0
 have kR_1:w2.cell? ⟨W.heap.size,1,none⟩=some (.int .i64 0):=jq0 HR.o 1
 have fR_1:w2.frozen? ⟨W.heap.size,1,none⟩=false:=jq1 HR.o 1
 have kr_0:w2.cell? ⟨w1.heap.size,0,none⟩=some (.int .i64 (n:Int)):=jq0 Hr.o 0
 have fr_0:w2.frozen? ⟨w1.heap.size,0,none⟩=false:=jq1 Hr.o 0
 have kr_1:w2.cell? ⟨w1.heap.size,1,none⟩=some (.int .i64 1):=jq0 Hr.o 1
 have fr_1:w2.frozen? ⟨w1.heap.size,1,none⟩=false:=jq1 Hr.o 1
 go_wp2_with fail
 exact bodyPost_ret (v:= .agg #[.int .i64 (n:Int),.int .i64 1]) (jq8 Tryd.results93 rfl (jj4 (cs:= [.int .i64 (n:Int),.int .i64 1]) Tryd.underlying52 rfl (by kernel_rfl) (jx4 (jx4 HR.o 0 (.int .i64 (n:Int))) 1 (.int .i64 1)))) rfl ⟨rfl,((HA.o.set (i:=0) (Nat.le_refl _) hbl (.int .i64 (n:Int))).set (i:=1) (Nat.le_refl _) hbl (.int .i64 1))⟩
theorem ratio_any (E:Env) (b:Nat) (s:St) (W:World) (h:PW E b s W):
  Calls Tryd.prog 93 #[.pointer (some ⟨b,0,none⟩)] W fun e w'=>e= .returned (.agg #[.int .i64 ((ratio s).1.num:Int),.int .i64 ((ratio s).1.den:Int)])∧After E b (ratio s).2 W w':=by
 obtain ⟨n,s1,h1⟩: ∃x s',number s=(x,s'):=⟨_,_,rfl⟩
 obtain ⟨b2,s2,h2⟩: ∃x s',acc [47] s1=(x,s'):=⟨_,_,rfl⟩
 cases b2 with
 |true=>
  obtain ⟨d,s3,h3⟩: ∃x s',number s2=(x,s'):=⟨_,_,rfl⟩
  have hp:ratio s=((⟨n,d⟩:Ratio),s3):=(jq3 h1).trans ((jz1 h2).trans ((jq3 h3).trans (rfl)))
  rw [hp]
  exact ratio_p1 E b s W h n s1 s2 d s3 h1 h2 h3
 |false=>
  have hp:ratio s=((⟨n,1⟩:Ratio),s2):=(jq3 h1).trans ((jx9 h2).trans (rfl))
  rw [hp]
  exact ratio_p2 E b s W h n s1 s2 h1 h2
theorem date_p1 (E:Env) (b:Nat) (s:St) (W:World) (h:PW E b s W) (y:Nat) (s1:St) (u2:Unit) (s2:St) (m:Nat) (s3:St) (u4:Unit) (s4:St) (d:Nat) (s5:St) (h1:number s=(y,s1)) (h2:expect [[45]] s1=(u2,s2)) (h3:number s2=(m,s3)) (h4:expect [[45]] s3=(u4,s4)) (h5:number s4=(d,s5)):
  Calls Tryd.prog 35 #[.pointer (some ⟨b,0,none⟩)] W fun e w'=>e= .returned (.agg #[.int .i64 (y:Int),.int .i64 (m:Int),.int .i64 (d:Int)])∧After E b s5 W w':=by
 have hbl:=h.2.2.1
 have HP:=hdd h;clear h
 have H1:=hdd h1;clear h1
 have H2:=hdd h2;clear h2
 have H3:=hdd h3;clear h3
 have H4:=hdd h4;clear h4
 have H5:=hdd h5;clear h5
 go_enter Tryd.func35,Tryd.ntmps35
 go_wp2_with fail
 refine (number_any E b s _ (((After.start HP.o).alloc _).alloc _).1).mono ?_
 rw [H1.o]
 rintro e w1 ⟨rfl,hA⟩
 have GR:Hid (w1.heap[W.heap.size]?=some (.cells #[.int .i64 0,.int .i64 0,.int .i64 0] 24 (0,0))):=hA.2.blk (jq9 (jq5 (by simp)) _) (by omega)
 have Gc:Hid (w1.heap[W.heap.size+1]?=some (.cells #[.int .i64 0,.int .i64 0,.int .i64 0] 24 (0,0))):=hA.2.blk (jq5 (by simp)) (by omega)
 have GA:=hdd ((((After.start HP.o).alloc _).alloc _).trans hA)
 have hs1:W.heap.size<w1.heap.size:=by have:=hA.2.size;simp only [World.size_alloc] at this;omega
 clear hA
 revert GR Gc GA;intro HR Hc HA
 have kc_0:w1.cell? ⟨W.heap.size+1,0,none⟩=some (.int .i64 0):=jq0 Hc.o 0
 have fc_0:w1.frozen? ⟨W.heap.size+1,0,none⟩=false:=jq1 Hc.o 0
 go_wp2_with fail
 refine (expect1 E b s1 [45] _ _ (by simp) (HA.o.set (i:=0) (by omega) (by omega) (.int .i64 (y:Int))).1).mono ?_
 rw [H2.o]
 rintro e w2 ⟨rfl,hA⟩
 have GR:Hid (w2.heap[W.heap.size]?=some (.cells #[.int .i64 0,.int .i64 0,.int .i64 0] 24 (0,0))):=hA.2.blk (jq2 HR.o (by omega) (.int .i64 (y:Int))) (by omega)
 have Gc:Hid (w2.heap[W.heap.size+1]?=some (.cells #[.int .i64 (y:Int),.int .i64 0,.int .i64 0] 24 (0,0))):=hA.2.blk (jx4 Hc.o 0 (.int .i64 (y:Int))) (by omega)
 have GA:=hdd ((HA.o.set (i:=0) (by omega) (by omega) (.int .i64 (y:Int))).trans hA)
 have hs2:W.heap.size<w2.heap.size:=by have:=hA.2.size;simp only [World.size_setCell] at this;omega
 clear hA
 try clear kc_0 fc_0
 clear HA HR Hc
 revert GR Gc GA;intro HR Hc HA
 go_wp2_with fail
 refine (number_any E b s2 _ HA.o.1).mono ?_
 rw [H3.o]
 rintro e w3 ⟨rfl,hA⟩
 have GR:Hid (w3.heap[W.heap.size]?=some (.cells #[.int .i64 0,.int .i64 0,.int .i64 0] 24 (0,0))):=hA.2.blk HR.o (by omega)
 have Gc:Hid (w3.heap[W.heap.size+1]?=some (.cells #[.int .i64 (y:Int),.int .i64 0,.int .i64 0] 24 (0,0))):=hA.2.blk Hc.o (by omega)
 have GA:=hdd (HA.o.trans hA)
 have hs3:W.heap.size<w3.heap.size:=by have:=hA.2.size;omega
 clear hA
 clear HA HR Hc
 revert GR Gc GA;intro HR Hc HA
 have kc_1:w3.cell? ⟨W.heap.size+1,1,none⟩=some (.int .i64 0):=jq0 Hc.o 1
 have fc_1:w3.frozen? ⟨W.heap.size+1,1,none⟩=false:=jq1 Hc.o 1
 go_wp2_with fail
 refine (expect1 E b s3 [45] _ _ (by simp) (HA.o.set (i:=1) (by omega) (by omega) (.int .i64 (m:Int))).1).mono ?_
 rw [H4.o]
 rintro e w4 ⟨rfl,hA⟩
 have GR:Hid (w4.heap[W.heap.size]?=some (.cells #[.int .i64 0,.int .i64 0,.int .i64 0] 24 (0,0))):=hA.2.blk (jq2 HR.o (by omega) (.int .i64 (m:Int))) (by omega)
 have Gc:Hid (w4.heap[W.heap.size+1]?=some (.cells #[.int .i64 (y:Int),.int .i64 (m:Int),.int .i64 0] 24 (0,0))):=hA.2.blk (jx4 Hc.o 1 (.int .i64 (m:Int))) (by omega)
 have GA:=hdd ((HA.o.set (i:=1) (by omega) (by omega) (.int .i64 (m:Int))).trans hA)
 have hs4:W.heap.size<w4.heap.size:=by have:=hA.2.size;simp only [World.size_setCell] at this;omega
 clear hA
 try clear kc_1 fc_1
 clear HA HR Hc
 revert GR Gc GA;intro HR Hc HA
 go_wp2_with fail
 refine (number_any E b s4 _ HA.o.1).mono ?_
 rw [H5.o]
 rintro e w5 ⟨rfl,hA⟩
 have GR:Hid (w5.heap[W.heap.size]?=some (.cells #[.int .i64 0,.int .i64 0,.int .i64 0] 24 (0,0))):=hA.2.blk HR.o (by omega)
 have Gc:Hid (w5.heap[W.heap.size+1]?=some (.cells #[.int .i64 (y:Int),.int .i64 (m:Int),.int .i64 0] 24 (0,0))):=hA.2.blk Hc.o (by omega)
 have GA:=hdd (HA.o.trans hA)
 have hs5:W.heap.size<w5.heap.size:=by have:=hA.2.size;omega
 clear hA
 clear HA HR Hc
 revert GR Gc GA;intro HR Hc HA
 have kR_0:w5.cell? ⟨W.heap.size,0,none⟩=some (.int .i64 0):=jq0 HR.o 0
 have fR_0:w5.frozen? ⟨W.heap.size,0,none⟩=false:=jq1 HR.o 0
 have kR_1:w5.cell? ⟨W.heap.size,1,none⟩=some (.int .i64 0):=jq0 HR.o 1
 have fR_1:w5.frozen? ⟨W.heap.size,1,none⟩=false:=jq1 HR.o 1
 have kR_2:w5.cell? ⟨W.heap.size,2,none⟩=some (.int .i64 0):=jq0 HR.o 2
 have fR_2:w5.frozen? ⟨W.heap.size,2,none⟩=false:=jq1 HR.o 2
 have kc_0:w5.cell? ⟨W.heap.size+1,0,none⟩=some (.int .i64 (y:Int)):=jq0 Hc.o 0
 have fc_0:w5.frozen? ⟨W.heap.size+1,0,none⟩=false:=jq1 Hc.o 0
 have kc_1:w5.cell? ⟨W.heap.size+1,1,none⟩=some (.int .i64 (m:Int)):=jq0 Hc.o 1
 have fc_1:w5.frozen? ⟨W.heap.size+1,1,none⟩=false:=jq1 Hc.o 1
 have kc_2:w5.cell? ⟨W.heap.size+1,2,none⟩=some (.int .i64 0):=jq0 Hc.o 2
 have fc_2:w5.frozen? ⟨W.heap.size+1,2,none⟩=false:=jq1 Hc.o 2
 go_wp2_with fail
 exact bodyPost_ret (v:= .agg #[.int .i64 (y:Int),.int .i64 (m:Int),.int .i64 (d:Int)]) (jq8 Tryd.results35 rfl (jj4 (cs:= [.int .i64 (y:Int),.int .i64 (m:Int),.int .i64 (d:Int)]) Tryd.underlying24 rfl (by kernel_rfl) (jx4 (jx4 (jx4 (jq2 HR.o (by omega) (.int .i64 (d:Int))) 0 (.int .i64 (y:Int))) 1 (.int .i64 (m:Int))) 2 (.int .i64 (d:Int))))) rfl ⟨rfl,((((HA.o.set (i:=2) (by omega) (by omega) (.int .i64 (d:Int))).set (i:=0) (Nat.le_refl _) hbl (.int .i64 (y:Int))).set (i:=1) (Nat.le_refl _) hbl (.int .i64 (m:Int))).set (i:=2) (Nat.le_refl _) hbl (.int .i64 (d:Int)))⟩
theorem date_any (E:Env) (b:Nat) (s:St) (W:World) (h:PW E b s W):
  Calls Tryd.prog 35 #[.pointer (some ⟨b,0,none⟩)] W fun e w'=>e= .returned (.agg #[.int .i64 ((date s).1.y:Int),.int .i64 ((date s).1.m:Int),.int .i64 ((date s).1.d:Int)])∧After E b (date s).2 W w':=by
 obtain ⟨y,s1,h1⟩: ∃x s',number s=(x,s'):=⟨_,_,rfl⟩
 obtain ⟨u2,s2,h2⟩: ∃x s',expect [[45]] s1=(x,s'):=⟨_,_,rfl⟩
 obtain ⟨m,s3,h3⟩: ∃x s',number s2=(x,s'):=⟨_,_,rfl⟩
 obtain ⟨u4,s4,h4⟩: ∃x s',expect [[45]] s3=(x,s'):=⟨_,_,rfl⟩
 obtain ⟨d,s5,h5⟩: ∃x s',number s4=(x,s'):=⟨_,_,rfl⟩
 have hp:date s=((⟨y,m,d⟩:Civil),s5):=(jq3 h1).trans ((jx1 h2).trans ((jq3 h3).trans ((jx1 h4).trans ((jq3 h5).trans (rfl)))))
 rw [hp]
 exact date_p1 E b s W h y s1 u2 s2 m s3 u4 s4 d s5 h1 h2 h3 h4 h5
theorem days_p1 (E:Env) (b:Nat) (s:St) (W:World) (h:PW E b s W) (n:Nat) (s1:St) (bb:Bool) (s2:St) (u3:Unit) (s3:St) (h1:number s=(n,s1)) (h2:acc [98,117,115,105,110,101,115,115] s1=(bb,s2)) (h3:expect [[100,97,121,115]] s2=(u3,s3)):
  Calls Tryd.prog 95 #[.pointer (some ⟨b,0,none⟩)] W fun e w'=>e= .returned (.agg #[.int .i64 (n:Int),.bool bb,.string ⟨#[]⟩])∧After E b s3 W w':=by
 have hbl:=h.2.2.1
 have HP:=hdd h;clear h
 have H1:=hdd h1;clear h1
 have H2:=hdd h2;clear h2
 have H3:=hdd h3;clear h3
 go_enter Tryd.func95,Tryd.ntmps95
 go_wp2_with fail
 refine (number_any E b s _ ((After.start HP.o).alloc _).1).mono ?_
 rw [H1.o]
 rintro e w1 ⟨rfl,hA⟩
 have GR:Hid (w1.heap[W.heap.size]?=some (.cells #[.int .i64 0,.bool false,.string ⟨#[]⟩] 49 (0,0))):=hA.2.blk (jq5 (by simp)) (by omega)
 have GA:=hdd (((After.start HP.o).alloc _).trans hA)
 have hs1:W.heap.size<w1.heap.size:=by have:=hA.2.size;simp only [World.size_alloc] at this;omega
 clear hA
 revert GR GA;intro HR HA
 go_wp2_with fail
 refine (jx0 E b s1 [98,117,115,105,110,101,115,115] _ (HA.o.alloc _).1).mono ?_
 rw [H2.o]
 rintro e w2 ⟨rfl,hA⟩
 have GR:Hid (w2.heap[W.heap.size]?=some (.cells #[.int .i64 0,.bool false,.string ⟨#[]⟩] 49 (0,0))):=hA.2.blk (jq9 HR.o _) (by omega)
 have Gp:Hid (w2.heap[w1.heap.size]?=some (.cells #[.int .i64 (n:Int),.bool false,.string ⟨#[]⟩] 49 (0,0))):=hA.2.blk (jq5 (by simp)) (by omega)
 have GA:=hdd ((HA.o.alloc _).trans hA)
 have hs2:W.heap.size<w2.heap.size:=by have:=hA.2.size;simp only [World.size_alloc] at this;omega
 clear hA
 clear HA HR
 revert GR Gp GA;intro HR Hp HA
 have kp_1:w2.cell? ⟨w1.heap.size,1,none⟩=some (.bool false):=jq0 Hp.o 1
 have fp_1:w2.frozen? ⟨w1.heap.size,1,none⟩=false:=jq1 Hp.o 1
 go_wp2_with fail
 refine (expect1 E b s2 [100,97,121,115] _ _ (by simp) (HA.o.set (i:=1) (by omega) (by omega) (.bool bb)).1).mono ?_
 rw [H3.o]
 rintro e w3 ⟨rfl,hA⟩
 have GR:Hid (w3.heap[W.heap.size]?=some (.cells #[.int .i64 0,.bool false,.string ⟨#[]⟩] 49 (0,0))):=hA.2.blk (jq2 HR.o (by omega) (.bool bb)) (by omega)
 have Gp:Hid (w3.heap[w1.heap.size]?=some (.cells #[.int .i64 (n:Int),.bool bb,.string ⟨#[]⟩] 49 (0,0))):=hA.2.blk (jx4 Hp.o 1 (.bool bb)) (by omega)
 have GA:=hdd ((HA.o.set (i:=1) (by omega) (by omega) (.bool bb)).trans hA)
 have hs3:W.heap.size<w3.heap.size:=by have:=hA.2.size;simp only [World.size_setCell] at this;omega
 clear hA
 try clear kp_1 fp_1
 clear HA HR Hp
 revert GR Gp GA;intro HR Hp HA
 have kR_0:w3.cell? ⟨W.heap.size,0,none⟩=some (.int .i64 0):=jq0 HR.o 0
 have fR_0:w3.frozen? ⟨W.heap.size,0,none⟩=false:=jq1 HR.o 0
 have kR_1:w3.cell? ⟨W.heap.size,1,none⟩=some (.bool false):=jq0 HR.o 1
 have fR_1:w3.frozen? ⟨W.heap.size,1,none⟩=false:=jq1 HR.o 1
 have kR_2:w3.cell? ⟨W.heap.size,2,none⟩=some (.string ⟨#[]⟩):=jq0 HR.o 2
 have fR_2:w3.frozen? ⟨W.heap.size,2,none⟩=false:=jq1 HR.o 2
 have kp_0:w3.cell? ⟨w1.heap.size,0,none⟩=some (.int .i64 (n:Int)):=jq0 Hp.o 0
 have fp_0:w3.frozen? ⟨w1.heap.size,0,none⟩=false:=jq1 Hp.o 0
 have kp_1:w3.cell? ⟨w1.heap.size,1,none⟩=some (.bool bb):=jq0 Hp.o 1
 have fp_1:w3.frozen? ⟨w1.heap.size,1,none⟩=false:=jq1 Hp.o 1
 have kp_2:w3.cell? ⟨w1.heap.size,2,none⟩=some (.string ⟨#[]⟩):=jq0 Hp.o 2
 have fp_2:w3.frozen? ⟨w1.heap.size,2,none⟩=false:=jq1 Hp.o 2
 go_wp2_with fail
 exact bodyPost_ret (v:= .agg #[.int .i64 (n:Int),.bool bb,.string ⟨#[]⟩]) (jq8 Tryd.results95 rfl (jj4 (cs:= [.int .i64 (n:Int),.bool bb,.string ⟨#[]⟩]) Tryd.underlying49 rfl (by kernel_rfl) (jx4 (jx4 (jx4 HR.o 0 (.int .i64 (n:Int))) 1 (.bool bb)) 2 (.string ⟨#[]⟩)))) rfl ⟨rfl,(((HA.o.set (i:=0) (Nat.le_refl _) hbl (.int .i64 (n:Int))).set (i:=1) (Nat.le_refl _) hbl (.bool bb)).set (i:=2) (Nat.le_refl _) hbl (.string ⟨#[]⟩))⟩
theorem days_any (E:Env) (b:Nat) (s:St) (W:World) (h:PW E b s W):
  Calls Tryd.prog 95 #[.pointer (some ⟨b,0,none⟩)] W fun e w'=>e= .returned (.agg #[.int .i64 ((days s).1.days:Int),.bool (days s).1.bus,.string ⟨(days s).1.name.toArray⟩])∧After E b (days s).2 W w':=by
 obtain ⟨n,s1,h1⟩: ∃x s',number s=(x,s'):=⟨_,_,rfl⟩
 obtain ⟨bb,s2,h2⟩: ∃x s',acc [98,117,115,105,110,101,115,115] s1=(x,s'):=⟨_,_,rfl⟩
 obtain ⟨u3,s3,h3⟩: ∃x s',expect [[100,97,121,115]] s2=(x,s'):=⟨_,_,rfl⟩
 have hp:days s=((⟨n,bb,[]⟩:Span),s3):=(jq3 h1).trans ((jq3 h2).trans ((jx1 h3).trans (rfl)))
 rw [hp]
 exact days_p1 E b s W h n s1 bb s2 u3 s3 h1 h2 h3
theorem span_p1 (E:Env) (b:Nat) (s:St) (W:World) (h:PW E b s W) (t1:Tok) (s1:St) (h1:opt 1 s=(some t1,s1)):
  Calls Tryd.prog 104 #[.pointer (some ⟨b,0,none⟩)] W fun e w'=>e= .returned (.agg #[.int .i64 0,.bool false,.string ⟨t1.text.toArray⟩])∧After E b s1 W w':=by
 have hbl:=h.2.2.1
 have HP:=hdd h;clear h
 have H1:=hdd h1;clear h1
 go_enter Tryd.func104,Tryd.ntmps104
 go_wp2_with fail
 refine (jz7 E b s 1 _ ((After.start HP.o).alloc _).1).mono ?_
 rw [(kx2 H1.o).1]
 rintro e w1 ⟨rfl,m1,rfl⟩
 go_wp2_with fail
 refine (name_any E b s _ (((After.start HP.o).alloc _).drewN m1).1).mono ?_
 rw [name_of_opt H1.o]
 rintro e w1 ⟨rfl,hA⟩
 have GR:Hid (w1.heap[W.heap.size]?=some (.cells #[.int .i64 0,.bool false,.string ⟨#[]⟩] 49 (0,0))):=hA.2.blk (jx2 (jq5 (by simp)) m1) (by omega)
 have GA:=hdd ((((After.start HP.o).alloc _).drewN m1).trans hA)
 have hs1:W.heap.size<w1.heap.size:=by have:=hA.2.size;simp only [World.size_alloc,kq6] at this;omega
 clear hA
 revert GR GA;intro HR HA
 have kR_0:w1.cell? ⟨W.heap.size,0,none⟩=some (.int .i64 0):=jq0 HR.o 0
 have fR_0:w1.frozen? ⟨W.heap.size,0,none⟩=false:=jq1 HR.o 0
 have kR_1:w1.cell? ⟨W.heap.size,1,none⟩=some (.bool false):=jq0 HR.o 1
 have fR_1:w1.frozen? ⟨W.heap.size,1,none⟩=false:=jq1 HR.o 1
 have kR_2:w1.cell? ⟨W.heap.size,2,none⟩=some (.string ⟨#[]⟩):=jq0 HR.o 2
 have fR_2:w1.frozen? ⟨W.heap.size,2,none⟩=false:=jq1 HR.o 2
 go_wp2_with fail
 exact bodyPost_ret (v:= .agg #[.int .i64 0,.bool false,.string ⟨t1.text.toArray⟩]) (jq8 Tryd.results104 rfl (jj4 (cs:= [.int .i64 0,.bool false,.string ⟨t1.text.toArray⟩]) Tryd.underlying49 rfl (by kernel_rfl) (jx4 (jx4 (jx4 HR.o 0 (.int .i64 0)) 1 (.bool false)) 2 (.string ⟨t1.text.toArray⟩)))) rfl ⟨rfl,(((HA.o.set (i:=0) (Nat.le_refl _) hbl (.int .i64 0)).set (i:=1) (Nat.le_refl _) hbl (.bool false)).set (i:=2) (Nat.le_refl _) hbl (.string ⟨t1.text.toArray⟩))⟩
theorem span_p2 (E:Env) (b:Nat) (s:St) (W:World) (h:PW E b s W) (s1:St) (d:Span) (s2:St) (h1:opt 1 s=(none,s1)) (h2:days s1=(d,s2)):
  Calls Tryd.prog 104 #[.pointer (some ⟨b,0,none⟩)] W fun e w'=>e= .returned (.agg #[.int .i64 (d.days:Int),.bool d.bus,.string ⟨d.name.toArray⟩])∧After E b s2 W w':=by
 have hbl:=h.2.2.1
 have HP:=hdd h;clear h
 have H1:=hdd h1;clear h1
 have H2:=hdd h2;clear h2
 go_enter Tryd.func104,Tryd.ntmps104
 go_wp2_with fail
 refine (jz7 E b s 1 _ ((After.start HP.o).alloc _).1).mono ?_
 rw [(jj5 H1.o).1]
 rintro e w1 ⟨rfl,m1,rfl⟩
 obtain rfl:=(jj5 H1.o).2
 go_wp2_with fail
 refine (days_any E b s1 _ (((After.start HP.o).alloc _).drewN m1).1).mono ?_
 rw [H2.o]
 rintro e w2 ⟨rfl,hA⟩
 have GR:Hid (w2.heap[W.heap.size]?=some (.cells #[.int .i64 0,.bool false,.string ⟨#[]⟩] 49 (0,0))):=hA.2.blk (jx2 (jq5 (by simp)) m1) (by omega)
 have GA:=hdd ((((After.start HP.o).alloc _).drewN m1).trans hA)
 have hs2:W.heap.size<w2.heap.size:=by have:=hA.2.size;simp only [World.size_alloc,kq6] at this;omega
 clear hA
 revert GR GA;intro HR HA
 have kR_0:w2.cell? ⟨W.heap.size,0,none⟩=some (.int .i64 0):=jq0 HR.o 0
 have fR_0:w2.frozen? ⟨W.heap.size,0,none⟩=false:=jq1 HR.o 0
 have kR_1:w2.cell? ⟨W.heap.size,1,none⟩=some (.bool false):=jq0 HR.o 1
 have fR_1:w2.frozen? ⟨W.heap.size,1,none⟩=false:=jq1 HR.o 1
 have kR_2:w2.cell? ⟨W.heap.size,2,none⟩=some (.string ⟨#[]⟩):=jq0 HR.o 2
 have fR_2:w2.frozen? ⟨W.heap.size,2,none⟩=false:=jq1 HR.o 2
 go_wp2_with fail
 exact bodyPost_ret (v:= .agg #[.int .i64 (d.days:Int),.bool d.bus,.string ⟨d.name.toArray⟩]) (jq8 Tryd.results104 rfl (jj4 (cs:= [.int .i64 (d.days:Int),.bool d.bus,.string ⟨d.name.toArray⟩]) Tryd.underlying49 rfl (by kernel_rfl) (jx4 (jx4 (jx4 HR.o 0 (.int .i64 (d.days:Int))) 1 (.bool d.bus)) 2 (.string ⟨d.name.toArray⟩)))) rfl ⟨rfl,(((HA.o.set (i:=0) (Nat.le_refl _) hbl (.int .i64 (d.days:Int))).set (i:=1) (Nat.le_refl _) hbl (.bool d.bus)).set (i:=2) (Nat.le_refl _) hbl (.string ⟨d.name.toArray⟩))⟩
theorem span_any (E:Env) (b:Nat) (s:St) (W:World) (h:PW E b s W):
  Calls Tryd.prog 104 #[.pointer (some ⟨b,0,none⟩)] W fun e w'=>e= .returned (.agg #[.int .i64 ((span s).1.days:Int),.bool (span s).1.bus,.string ⟨(span s).1.name.toArray⟩])∧After E b (span s).2 W w':=by
 obtain ⟨o1,s1,h1⟩: ∃x s',opt 1 s=(x,s'):=⟨_,_,rfl⟩
 cases o1 with
 |some t1=>
  have hp:span s=((⟨0,false,t1.text⟩:Span),s1):=(jq3 h1).trans (rfl)
  rw [hp]
  exact span_p1 E b s W h t1 s1 h1
 |none=>
  obtain ⟨d,s2,h2⟩: ∃x s',days s1=(x,s'):=⟨_,_,rfl⟩
  have hp:span s=(d,s2):=(jq3 h1).trans ((jq3 h2).trans (rfl))
  rw [hp]
  exact span_p2 E b s W h s1 d s2 h1 h2
end Go.Proofs.YtfaflipphkoiiaaDoor.Pr
namespace Go.Proofs.YtfaflipphkoiiaaDoor.Pr
open Go.RowKit Mem
open Lx (Tok)
def After2 (E:Env) (b q:Nat) (s:St) (W w':World):Prop:=PW E b s w'∧Fr (fun k=>k=b∨k=q) W w'
theorem After2.start {E:Env} {b q:Nat} {s:St} {W:World} (h:PW E b s W):After2 E b q s W W:=⟨h,Fr.refl _ _⟩
theorem After2.trans {E:Env} {b q:Nat} {s s':St} {W W1 W2:World} (h:After2 E b q s W W1) (h2:After E b s' W1 W2):After2 E b q s' W W2:=⟨h2.1,h.2.trans (h2.2.mono fun _ _ e=> .inl e)⟩
theorem After2.trans2 {E:Env} {b q:Nat} {s s':St} {W W1 W2:World} (h:After2 E b q s W W1) (h2:After2 E b q s' W1 W2):After2 E b q s' W W2:=⟨h2.1,h.2.trans h2.2⟩
theorem After2.drewN {E:Env} {b q:Nat} {s:St} {W W1:World} (h:After2 E b q s W W1) (n:Nat):After2 E b q s W (W1.drewN n):=⟨h.1.drewN n,h.2.drewN n⟩
theorem After2.alloc {E:Env} {b q:Nat} {s:St} {W W1:World} (h:After2 E b q s W W1) (o:Obj):After2 E b q s W (W1.alloc o):=⟨h.1.alloc o,h.2.alloc o⟩
theorem After2.set {E:Env} {b q:Nat} {s:St} {W W1:World} (h:After2 E b q s W W1) {i:Nat} (hb:b<q) (u:Value):After2 E b q s W (W1.setCell ⟨q,i,none⟩ u):=
 ⟨h.1.set hb u,h.2.setCell (p:=⟨q,i,none⟩) (.inl (.inr rfl)) u⟩
theorem After.ptr {E:Env} {b q:Nat} {s s':St} {W W1 W2:World} (h:After E b s W W1) (h2:After2 E b q s' W1 W2) (hq:W.heap.size≤q):After E b s' W W2:=
 ⟨h2.1,h.2.trans' h2.2 (fun i hi hT=>by rcases hT with e|e<;>omega)⟩
end Go.Proofs.YtfaflipphkoiiaaDoor.Pr
