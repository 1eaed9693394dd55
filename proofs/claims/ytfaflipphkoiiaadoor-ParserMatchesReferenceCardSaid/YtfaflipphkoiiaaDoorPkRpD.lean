/-
  What some functions of the reference's parser return (printed by mkrp10.py): item: none begins, or one too many. The reference's item without inner items. Rows that the reference's template builds: an element is appended as zero, then stored. What some functions of the reference's parser return (printed by mkrp11.py): template: its drawn region. What the reference's template does. What some functions of the reference's parser return (printed by mkrp12.py): item: templates, every item.
-/
import Derived.Test.YtfaflipphkoiiaaDoorPkRpC
import Derived.Test.YtfaflipphkoiiaaDoorRpN
import Derived.Test.YtfaflipphkoiiaaDoorPkParC
import Derived.Test.YtfaflipphkoiiaaDoorPkReg
import Derived.Deep.MidRow
set_option maxHeartbeats 64000000
set_option maxRecDepth 100000
set_option linter.unusedVariables false
set_option linter.unusedSimpArgs false
namespace Go.Proofs.YtfaflipphkoiiaaDoor.Rp
open Go.RowKit Mem Pr
open Lx (Tok isDigit isLetter isSym)
theorem item_p0 (E:Env) (b:Nat) (s:St) (W:World) (h:PW E b s W) (i:Bool) (hk:rkind i s rwords=0):
  Calls Tryd.prog 28 #[.pointer (some ⟨b,0,none⟩),.bool i] W fun e w'=>(∃sc sd sn,e= .returned (.agg (icells flat0 sc sd sn nil).toArray)∧FlatOK W.heap.size flat0 sc sd sn w')∧After E b (Pr.fail s).2 W w':=by
 have hbl:=h.2.2.1
 have hln:=h.1
 have HP:=hdd h;have HK:=hdd hk;
 clear h hk
 go_enter Tryd.func28,Tryd.ntmps28
 go_wp2_with fail
 refine (jv1 E b s _ ((After.start HP.o).alloc _).1 i).mono ?_
 rw [HK.o]
 rintro e w1 ⟨rfl,hA⟩
 have HR1:Hid (IB W.heap.size flat0 nil nil nil nil w1):=hA.2.blk (jq5 (by simp)) (by omega)
 have HA1:=hdd (((After.start HP.o).alloc _).trans hA)
 have hs1:W.heap.size<w1.heap.size:=jq7 HR1.o
 clear hA
 obtain ⟨g,HG⟩: ∃q,Hid (w1.heap.size=q):=⟨_,rfl⟩
 obtain ⟨w2,hw2⟩: ∃u,w1.alloc (.cells (icells flat0 nil nil nil nil).toArray 57)=u:=⟨_,rfl⟩
 have HI2:Hid (IB g flat0 nil nil nil nil w2):=by rw [←hw2];exact jq5 HG.o.symm
 have HA2:Hid (After E b s W w2):=by rw [←hw2];exact HA1.o.alloc _
 have HR2:Hid (IB W.heap.size flat0 nil nil nil nil w2):=by rw [←hw2];exact jq9 HR1.o _
 have hgW:W.heap.size<g:=by have:=HG.o;omega
 have HW2:=hdd hw2
 clear hw2 HA1 HR1
 go_upto_region 2 with (first|(refine wpList_build rfl 57 _ rfl #[(0,.int .i64 ((0:Nat):Int))] ?_ _ (jz6 0 _) ?_;(simp [Act.eval]))|(refine jq4 rfl 57 _ _ rfl rfl (icells flat0 nil nil nil nil).toArray rfl (jq6 _ _ _ _ _) (ic1 ..) (by rfl) ?_))
 rw [HW2.o,HG.o]
 clear HW2
 have k0:w2.cell? ⟨g,0,none⟩=some (.int .i64 0):=jq0 HI2.o 0
 go_wp2_with fail
 clear k0
 refine (fail_any E b s _ HA2.o.1).mono ?_
 rintro e w4 ⟨rfl,hA⟩
 have HI:Hid (IB g flat0 nil nil nil nil w4):=hA.2.blk HI2.o (by omega)
 have HR:Hid (IB W.heap.size flat0 nil nil nil nil w4):=hA.2.blk HR2.o (by omega)
 have HA:Hid (After E b (Pr.fail s).2 W w4):=HA2.o.trans hA
 clear hA HI2 HR2 HA2
 obtain ⟨w99,hw99,hA99,hl99,ho99⟩:=item_end (g:=flat0) (a1:=nil) (a2:=nil) (a3:=nil) (a4:=nil) HR.o HA.o hbl flat0 nil nil nil nil
 have HW99:=hdd hw99;clear hw99
 have HA99:=hdd hA99;clear hA99
 have HL99:=hdd hl99;clear hl99 ho99
 have HI9:Hid (IB g flat0 nil nil nil nil _):=HI.o
 have HR9:Hid (IB W.heap.size flat0 nil nil nil nil _):=HR.o
 go_wp2_with (first|(refine wpList_load_mid rfl 57 _ rfl g 0 rfl (icells flat0 nil nil nil nil) _ HI9.o.range Tryd.underlying57 rfl (jx6 _ _ _ _ _) ?_)|(refine wpList_store_mid rfl 57 _ _ rfl W.heap.size 0 (icells flat0 nil nil nil nil).toArray rfl rfl (HR9.o.there' _ _ _ _ _) (jq6 _ _ _ _ _) (ic1 ..) ?_;rw [HW99.o]))
 exact bodyPost_ret (v:= .agg (icells flat0 nil nil nil nil).toArray) (jq8 Tryd.results28 rfl HL99.o) rfl ⟨⟨nil,nil,nil,rfl,FlatOK.nil _ _ _ rfl rfl rfl⟩,HA99.o⟩
theorem item_lim (E:Env) (b:Nat) (s:St) (W:World) (h:PW E b s W) (i:Bool) (K:Nat) (hk:rkind i s rwords=K) (hK:K≠0) (t:Tok) (r:List Tok) (hr:s.rest=t::r) (he:s.err=0) (hit:s.items=600):
  Calls Tryd.prog 28 #[.pointer (some ⟨b,0,none⟩),.bool i] W fun e w'=>(∃sc sd sn,e= .returned (.agg (icells {flat0 with kind:=K,pos:=t.pos} sc sd sn nil).toArray)∧FlatOK W.heap.size {flat0 with kind:=K,pos:=t.pos} sc sd sn w')∧After E b {s with err:=3} W w':=by
 have hK0: ¬(K:Int)=0:=by omega
 have hbl:=h.2.2.1
 have hln:=h.1
 have HP:=hdd h;have HK:=hdd hk;have HR0:=hdd hr;have HE0:=hdd he
 have d6:(600:Int)≤(s.items:Int):=by rw [hit];decide
 clear h hk hr he hit
 go_enter Tryd.func28,Tryd.ntmps28
 go_wp2_with fail
 refine (jv1 E b s _ ((After.start HP.o).alloc _).1 i).mono ?_
 rw [HK.o]
 rintro e w1 ⟨rfl,hA⟩
 have HR1:Hid (IB W.heap.size flat0 nil nil nil nil w1):=hA.2.blk (jq5 (by simp)) (by omega)
 have HA1:=hdd (((After.start HP.o).alloc _).trans hA)
 have hs1:W.heap.size<w1.heap.size:=jq7 HR1.o
 clear hA
 obtain ⟨g,HG⟩: ∃q,Hid (w1.heap.size=q):=⟨_,rfl⟩
 obtain ⟨w2,hw2⟩: ∃u,w1.alloc (.cells (icells {flat0 with kind:=K} nil nil nil nil).toArray 57)=u:=⟨_,rfl⟩
 have HI2:Hid (IB g {flat0 with kind:=K} nil nil nil nil w2):=by rw [←hw2];exact jq5 HG.o.symm
 have HA2:Hid (After E b s W w2):=by rw [←hw2];exact HA1.o.alloc _
 have HR2:Hid (IB W.heap.size flat0 nil nil nil nil w2):=by rw [←hw2];exact jq9 HR1.o _
 have hgW:W.heap.size<g:=by have:=HG.o;omega
 have HW2:=hdd hw2
 clear hw2 HA1 HR1
 go_upto_region 2 with (first|(refine wpList_build rfl 57 _ rfl #[(0,.int .i64 ((K:Nat):Int))] ?_ _ (jz6 K _) ?_;(simp [Act.eval]))|(refine jq4 rfl 57 _ _ rfl rfl (icells {flat0 with kind:=K} nil nil nil nil).toArray rfl (jq6 _ _ _ _ _) (ic1 ..) (by rfl) ?_))
 rw [HW2.o,HG.o]
 clear HW2
 have k0:w2.cell? ⟨g,0,none⟩=some (.int .i64 (K:Int)):=jq0 HI2.o 0
 go_upto_region 5 with fail
 clear k0
 obtain ⟨_,hit',hb2,hpt,n0,h1',h2',hblk⟩:=id HA2.o.1
 have HD0:=hdd h2'
 have hd:t::r=E.ts.drop n0:=by rw [←HR0.o];exact h2'
 obtain ⟨hn,hti,hr2⟩:=jz2 hd
 obtain ⟨gt,ot,hAd,hgt,hct⟩:=hpt.2 (by omega)
 obtain ⟨_,_,_,q3⟩:=hct n0 hn
 rw [hti] at q3
 have c0:w2.cell? ⟨b,0,none⟩=some (.slice (some ⟨gt,ot,none⟩) E.ts.length E.cap):=by rw [←hAd];exact jq0 hblk 0
 have c1:w2.cell? ⟨b,1,none⟩=some (.int .i64 (n0:Int)):=jq0 hblk 1
 have x2:w2.cell? ⟨g,2,none⟩=some (.int .i64 0):=jq0 HI2.o 2
 have y2:w2.frozen? ⟨g,2,none⟩=false:=jq1 HI2.o 2
 have i1:(0:Int)≤(n0:Int):=Int.natCast_nonneg _
 have i2:(n0:Int)<(E.ts.length:Int):=by omega
 have hbg:b≠g:=by omega
 have htg:gt≠g:=by omega
 have g0:(w2.setCell ⟨g,2,none⟩ (.int .i64 (t.pos:Int))).drew.cell? ⟨b,0,none⟩=some (.slice (some ⟨gt,ot,none⟩) E.ts.length E.cap):=by
  show (w2.setCell ⟨g,2,none⟩ (.int .i64 (t.pos:Int))).cell? ⟨b,0,none⟩=_
  exact (jz0 hbg).trans c0
 have g1:(w2.setCell ⟨g,2,none⟩ (.int .i64 (t.pos:Int))).drew.cell? ⟨b,1,none⟩=some (.int .i64 (n0:Int)):=by
  show (w2.setCell ⟨g,2,none⟩ (.int .i64 (t.pos:Int))).cell? ⟨b,1,none⟩=_
  exact (jz0 hbg).trans c1
 have g3:(w2.setCell ⟨g,2,none⟩ (.int .i64 (t.pos:Int))).drew.cell? ⟨gt,ot+n0*4+3,none⟩=some (.int .i64 (t.pos:Int)):=by
  show (w2.setCell ⟨g,2,none⟩ (.int .i64 (t.pos:Int))).cell? ⟨gt,ot+n0*4+3,none⟩=_
  exact (jz0 htg).trans q3
 have HBLK:=hdd hblk;have HPT:=hdd hpt;have HRR:=hdd hr2
 clear hblk hpt hr2 hd hti hct h2' hAd
 go_region_held3 (fun w'=>w'.cell? ⟨b,0,none⟩=some (.slice (some ⟨gt,ot,none⟩) E.ts.length E.cap)∧w'.cell? ⟨b,1,none⟩=some (.int .i64 (n0:Int))∧w'.cell? ⟨gt,ot+n0*4+3,none⟩=some (.int .i64 (t.pos:Int))) (first|go_keep|(go_split_ands;refine ⟨?_,?_,?_⟩<;>first|assumption|exact c0|exact c1|exact q3|exact g0|exact g1|exact g3)) (fail)
 clear c0 c1 x2 y2 g0 g1 g3 q3
 obtain ⟨w3,hw3⟩: ∃u,(w2.setCell ⟨g,2,none⟩ (.int .i64 (t.pos:Int))).drewN 1=u:=⟨_,rfl⟩
 have HI3:Hid (IB g {flat0 with kind:=K,pos:=t.pos} nil nil nil nil w3):=by rw [←hw3];exact jx2 (IB.set_pos HI2.o t.pos) 1
 have HR3:Hid (IB W.heap.size flat0 nil nil nil nil w3):=by rw [←hw3];exact jx2 (jq2 HR2.o (by omega) _) 1
 have HB3:Hid (w3.heap[b]?=some (.cells (pcells E n0 s) 71 (0,0))):=by rw [←hw3];exact jx2 (jq2 HBLK.o (by omega) _) 1
 have HF3:Hid (Fr (fun k=>k=b) W w3):=by rw [←hw3];exact (HA2.o.2.setCell (p:=⟨g,2,none⟩) (.inr (by show W.heap.size≤g;omega)) _).drewN 1
 have HW3:Hid ((w2.setCell ⟨g,2,none⟩ (.int .i64 (t.pos:Int))).drew=w3):=hw3
 clear hw3 HI2 HR2 HBLK
 rw [HW3.o]
 clear HW3
 have c3:w3.cell? ⟨b,3,none⟩=some (.int .i64 (s.items:Int)):=jq0 HB3.o 3
 have c4:w3.cell? ⟨b,4,none⟩=some (.int .i64 (s.err:Int)):=jq0 HB3.o 4
 have f4:w3.frozen? ⟨b,4,none⟩=false:=jq1 HB3.o 4
 have c5:w3.cell? ⟨b,5,none⟩=some (.int .i64 (atOf E.size s:Int)):=jq0 HB3.o 5
 have f5:w3.frozen? ⟨b,5,none⟩=false:=jq1 HB3.o 5
 have x2:w3.cell? ⟨g,2,none⟩=some (.int .i64 (t.pos:Int)):=jq0 HI3.o 2
 go_upto_region 9 with fail
 obtain ⟨w4,hw4⟩: ∃u,(w3.setCell ⟨b,4,none⟩ (.int .i64 3)).setCell ⟨b,5,none⟩ (.int .i64 (t.pos:Int))=u:=⟨_,rfl⟩
 have HF4:Hid (Fr (fun k=>k=b) W w4):=by rw [←hw4];exact (HF3.o.setb 4 _).setb 5 _
 have HI:Hid (IB g {flat0 with kind:=K,pos:=t.pos} nil nil nil nil w4):=by rw [←hw4];exact jq2 (jq2 HI3.o (by omega) _) (by omega) _
 have HR:Hid (IB W.heap.size flat0 nil nil nil nil w4):=by rw [←hw4];exact jq2 (jq2 HR3.o (by omega) _) (by omega) _
 have HA:Hid (After E b {s with err:=3} W w4):=by
  have hbk:=set_err HB3.o 3 t.pos {s with err:=3} rfl rfl (by simp [atOf,HR0.o])
  have hbk:w4.heap[b]?=some (.cells (pcells E n0 {s with err:=3}) 71 (0,0)):=by rw [←hw4];exact hbk
  have hdr:s.rest=E.ts.drop n0:=HD0.o
  exact ⟨mod_PW HP.o HF4.o hit' (by omega) hdr hbk,HF4.o⟩
 rw [hw4]
 clear hw4 HF4 HI3 HR3 HB3 HF3 HA2 c3 c4 f4 c5 f5 x2 HPT HRR
 obtain ⟨w99,hw99,hA99,hl99,ho99⟩:=item_end (g:=flat0) (a1:=nil) (a2:=nil) (a3:=nil) (a4:=nil) HR.o HA.o hbl {flat0 with kind:=K,pos:=t.pos} nil nil nil nil
 have HW99:=hdd hw99;clear hw99
 have HA99:=hdd hA99;clear hA99
 have HL99:=hdd hl99;clear hl99 ho99
 have HI9:Hid (IB g {flat0 with kind:=K,pos:=t.pos} nil nil nil nil _):=HI.o
 have HR9:Hid (IB W.heap.size flat0 nil nil nil nil _):=HR.o
 go_wp2_with (first|(refine wpList_load_mid rfl 57 _ rfl g 0 rfl (icells {flat0 with kind:=K,pos:=t.pos} nil nil nil nil) _ HI9.o.range Tryd.underlying57 rfl (jx6 _ _ _ _ _) ?_)|(refine wpList_store_mid rfl 57 _ _ rfl W.heap.size 0 (icells {flat0 with kind:=K,pos:=t.pos} nil nil nil nil).toArray rfl rfl (HR9.o.there' _ _ _ _ _) (jq6 _ _ _ _ _) (ic1 ..) ?_;rw [HW99.o]))
 exact bodyPost_ret (v:= .agg (icells {flat0 with kind:=K,pos:=t.pos} nil nil nil nil).toArray) (jq8 Tryd.results28 rfl HL99.o) rfl ⟨⟨nil,nil,nil,rfl,FlatOK.nil _ _ _ rfl rfl rfl⟩,HA99.o⟩
end Go.Proofs.YtfaflipphkoiiaaDoor.Rp
namespace Go.Proofs.YtfaflipphkoiiaaDoor.Rp
open Pr
open Go.RowKit Mem
open Lx (Tok)
theorem rstart_some {i:Bool} {s:St} {K:Nat} {t:Tok} {r:List Tok} (hk:rkind i s rwords=K) (hK:K≠0) (hr:s.rest=t::r) (hit:s.items≠600):rstart i s=(some (K,t.pos),⟨r,s.items+1,0⟩):=by
 unfold rstart
 rw [hk,if_neg hK,if_neg hit,hr]
 rfl
theorem rflat_eq {i:Bool} {s:St} {K:Nat} {t:Tok} {r:List Tok} (hk:rkind i s rwords=K) (hK:K≠0) (hr:s.rest=t::r) (hit:s.items≠600):rflat i s=Pr.bnd (rbody K) (fun f=>Pr.ret {f with pos:=t.pos}) ⟨r,s.items+1,0⟩:=by
 unfold rflat
 rw [rstart_some hk hK hr hit]
theorem rflat_none {i:Bool} {s:St} (hk:rkind i s rwords=0):rflat i s=(flat0,(Pr.fail s).2):=by
 unfold rflat rstart
 rw [if_pos hk]
 show (rlost i s,(Pr.fail s).2)=_
 unfold rlost
 rw [hk]
 rfl
theorem rstart_lim {i:Bool} {s:St} {K:Nat} (hk:rkind i s rwords=K) (hK:K≠0) (hit:s.items=600):rstart i s=(none,{s with err:=3}):=by
 unfold rstart
 rw [hk,if_neg hK,if_pos hit]
theorem rlost_lim {i:Bool} {s:St} {K:Nat} {t:Tok} {r:List Tok} (hk:rkind i s rwords=K) (hK:K≠0) (hr:s.rest=t::r):rlost i s= {flat0 with kind:=K,pos:=t.pos}:=by
 unfold rlost hpos
 rw [hk,if_neg hK,hr]
theorem rflat_lim {i:Bool} {s:St} {K:Nat} {t:Tok} {r:List Tok} (hk:rkind i s rwords=K) (hK:K≠0) (hr:s.rest=t::r) (hit:s.items=600):rflat i s=({flat0 with kind:=K,pos:=t.pos},{s with err:=3}):=by
 unfold rflat
 rw [rstart_lim hk hK hit]
 show (rlost i s,_)=_
 rw [rlost_lim hk hK hr]
theorem rkind_le (i:Bool) (s:St): ∀(l:List (Bytes×Nat)),(∀p∈l,p.2≤14)→rkind i s l≤14
 | [],_=>Nat.zero_le _
 |p::l,h=>by
  unfold rkind
  split
  ·exact h p (List.mem_cons_self ..)
  ·exact rkind_le i s l fun q hq=>h q (List.mem_cons_of_mem _ hq)
def All (P:Flat→Prop) (m:M Flat):Prop:= ∀s,P (m s).1
theorem All.bnd {α:Type} {P:Flat→Prop} {m:M α} {f:α→M Flat} (h: ∀a,All P (f a)):All P (Pr.bnd m f):=fun s=>h _ _
theorem All.seq {α:Type} {P:Flat→Prop} {m:M α} {f:M Flat} (h:All P f):All P (Pr.seq m f):=fun s=>h _
theorem All.ret {P:Flat→Prop} {a:Flat} (h:P a):All P (Pr.ret a):=fun s=>h
theorem All.ite {P:Flat→Prop} {c:Prop} [Decidable c] {a b:M Flat} (h1:All P a) (h2:All P b):All P (if c then a else b):=by split<;>assumption
def Bare (f:Flat):Prop:=f.conds= []∧f.dates= []∧f.names= []
def Half (f:Flat):Prop:=f.dates= []∧f.names= []
theorem bare_tail (n:Bytes) (w:Nat):All Bare (unitTail n w):=All.bnd fun _=>All.ite (All.bnd fun _=>All.bnd fun _=>All.seq (All.ret ⟨rfl,rfl,rfl⟩)) (All.seq (All.ret ⟨rfl,rfl,rfl⟩))
theorem bare_unit (n:Bytes):All Bare (unitR n):=All.bnd fun _=>All.ite (bare_tail _ _) (All.seq (bare_tail _ _))
theorem bare_give (n o:Bytes) (w:Nat):All Bare (actGive n o w):=All.bnd fun _=>All.seq (All.bnd fun _=>All.seq (All.ret ⟨rfl,rfl,rfl⟩))
theorem bare_to (n o:Bytes) (r:Ratio) (u:Bytes):All Bare (actTo n o r u):=All.bnd fun _=>All.ite (All.bnd fun _=>All.seq (All.ret ⟨rfl,rfl,rfl⟩)) (All.seq (All.ret ⟨rfl,rfl,rfl⟩))
theorem bare_act (n:Bytes):All Bare (actR n):=All.seq (All.bnd fun _=>All.bnd fun _=>All.ite (bare_give _ _ _) (All.bnd fun _=>All.ite (bare_give _ _ _) (All.bnd fun _=>All.ite (All.bnd fun _=>All.bnd fun _=>bare_to _ _ _ _) (bare_to _ _ _ _))))
theorem half_end (n:Bytes) (oa:Bytes×Bytes) (k:Nat) (w g:Span):All Half (rdutyEnd n oa k w g):=All.bnd fun _=>All.bnd fun _=>All.seq (All.ret ⟨rfl,rfl⟩)
theorem half_tail (n:Bytes) (oa:Bytes×Bytes) (k:Nat):All Half (rdutyTail n oa k):=All.seq (All.bnd fun _=>All.bnd fun _=>All.ite (All.bnd fun _=>half_end _ _ _ _ _) (half_end _ _ _ _ _))
theorem half_duty (n:Bytes):All Half (dutyR n):=All.bnd fun _=>All.bnd fun o=>by
 cases o
 ·exact half_tail _ _ _
 ·exact All.seq (half_tail _ _ _)
theorem half_ban (n:Bytes):All Half (banR n):=All.bnd fun _=>All.seq (All.bnd fun _=>All.bnd fun _=>All.bnd fun _=>All.seq (All.ret ⟨rfl,rfl⟩))
theorem half_opt (n:Bytes):All Half (optR n):=All.bnd fun _=>All.seq (All.bnd fun _=>All.bnd fun _=>All.seq (All.ret ⟨rfl,rfl⟩))
theorem half_wat (n:Bytes):All Half (watR n):=All.seq (All.bnd fun _=>All.seq (All.bnd fun _=>All.bnd fun _=>All.seq (All.ret ⟨rfl,rfl⟩)))
theorem bnd_pos {R:Bytes→M Flat} {p:Nat} {s0 s1 s2:St} {n:Bytes} {V:Flat} (h1:name s0=(n,s1)) (h2:R n s1=(V,s2)):Pr.bnd (Pr.bnd name R) (fun f=>Pr.ret {f with pos:=p}) s0=({V with pos:=p},s2):=by
 have e:Pr.bnd name R s0=(V,s2):=by rw [jq3 h1];exact h2
 rw [jq3 e]
 rfl
theorem kz3 (E:Env) (b:Nat) (s:St) (W:World) (h:PW E b s W) (i:Bool) (h13:rkind i s rwords≠13):
  Calls Tryd.prog 28 #[.pointer (some ⟨b,0,none⟩),.bool i] W fun e w'=>(∃sc sd sn,e= .returned (.agg (icells (rflat i s).1 sc sd sn nil).toArray)∧FlatOK W.heap.size (rflat i s).1 sc sd sn w')∧After E b (rflat i s).2 W w':=by
 obtain ⟨K,hk⟩: ∃K,rkind i s rwords=K:=⟨_,rfl⟩
 by_cases hK:K=0
 ·subst hK
  rw [rflat_none hk]
  exact item_p0 E b s W h i hk
 ·obtain ⟨he,t,r,hr⟩:=rkind_ne i s rwords (by rw [hk];exact hK)
  by_cases hit:s.items=600
  ·rw [rflat_lim hk hK hr hit]
   exact item_lim E b s W h i K hk hK t r hr he hit
  ·have hle:=rkind_le i s rwords (by decide)
   rw [hk] at hle h13
   rw [rflat_eq hk hK hr hit]
   have hc:K=1∨K=2∨K=3∨K=4∨K=5∨K=6∨K=7∨K=8∨K=9∨K=10∨K=11∨K=12∨K=14:=by omega
   rcases hc with rfl|rfl|rfl|rfl|rfl|rfl|rfl|rfl|rfl|rfl|rfl|rfl|rfl
   ·obtain ⟨n,s1,h1⟩: ∃n s1,name ⟨r,s.items+1,0⟩=(n,s1):=⟨_,_,rfl⟩
    obtain ⟨u2,s2,h2⟩: ∃n s2,expect [[59]] s1=(n,s2):=⟨_,_,rfl⟩
    have e:rbody 1 ⟨r,s.items+1,0⟩=({flat0 with kind:=1,name:=n},s2):=by
     show party _=_
     unfold party
     rw [jq3 h1,jx1 h2]
     rfl
    rw [jq3 e]
    exact item_p1 E b s W h i hk t r hr he hit n s1 u2 s2 h1 h2
   ·obtain ⟨n,s1,h1⟩: ∃n s1,name ⟨r,s.items+1,0⟩=(n,s1):=⟨_,_,rfl⟩
    obtain ⟨u2,s2,h2⟩: ∃n s2,expect [[111,102]] s1=(n,s2):=⟨_,_,rfl⟩
    obtain ⟨o,s3,h3⟩: ∃n s3,name s2=(n,s3):=⟨_,_,rfl⟩
    obtain ⟨u4,s4,h4⟩: ∃n s2,expect [[59]] s3=(n,s2):=⟨_,_,rfl⟩
    have e:rbody 2 ⟨r,s.items+1,0⟩=({flat0 with kind:=2,name:=n,of_:=o},s4):=by
     show role _=_
     unfold role
     rw [jq3 h1,jx1 h2,jq3 h3,jx1 h4]
     rfl
    rw [jq3 e]
    exact item_p2 E b s W h i hk t r hr he hit n s1 u2 s2 o s3 u4 s4 h1 h2 h3 h4
   ·obtain ⟨n,s1,h1⟩: ∃n s1,name ⟨r,s.items+1,0⟩=(n,s1):=⟨_,_,rfl⟩
    obtain ⟨V,s2,h2⟩: ∃V s2,unitR n s1=(V,s2):=⟨_,_,rfl⟩
    have hV:=bare_unit n s1
    rw [h2] at hV
    rw [show rbody 3=Pr.bnd name unitR from rfl,bnd_pos h1 h2]
    exact item_p3 E b s W h i hk t r hr he hit n s1 V s2 h1 h2 hV.1 hV.2.1 hV.2.2
   ·obtain ⟨R,sr,h1⟩: ∃R sr,long (fun f=>rweekMore f flat0.days) ⟨r,s.items+1,0⟩=(R,sr):=⟨_,_,rfl⟩
    obtain ⟨u2,s2,h2⟩: ∃n s2,expect [[59]] sr=(n,s2):=⟨_,_,rfl⟩
    have e:rbody 4 ⟨r,s.items+1,0⟩=({flat0 with kind:=4,days:=R},s2):=by
     show rweekend _=_
     unfold rweekend
     rw [jq3 h1,jx1 h2]
     rfl
    rw [jq3 e]
    exact item_p4 E b s W h i hk t r hr he hit R sr u2 s2 h1 h2
   ·obtain ⟨R,sr,h1⟩: ∃R sr,long datesMore ⟨r,s.items+1,0⟩=(R,sr):=⟨_,_,rfl⟩
    obtain ⟨u2,s2,h2⟩: ∃n s2,expect [[59]] sr=(n,s2):=⟨_,_,rfl⟩
    have e:rbody 5 ⟨r,s.items+1,0⟩=({flat0 with kind:=5,dates:=R},s2):=by
     show Pr.holiday _=_
     unfold Pr.holiday
     rw [jq3 h1,jx1 h2]
     rfl
    rw [jq3 e]
    exact item_p5 E b s W h i hk t r hr he hit R sr u2 s2 h1 h2
   ·obtain ⟨n,s1,h1⟩: ∃n s1,name ⟨r,s.items+1,0⟩=(n,s1):=⟨_,_,rfl⟩
    obtain ⟨u2,s2,h2⟩: ∃n s2,expect [[61]] s1=(n,s2):=⟨_,_,rfl⟩
    obtain ⟨k,s3,h3⟩: ∃n s1,number s2=(n,s1):=⟨_,_,rfl⟩
    obtain ⟨d,s4,h4⟩: ∃n s1,rdays k s3=(n,s1):=⟨_,_,rfl⟩
    obtain ⟨u5,s5,h5⟩: ∃n s2,expect [[59]] s4=(n,s2):=⟨_,_,rfl⟩
    have e:Pr.days s2=(d,s4):=(jq3 h3).trans h4
    have e:rbody 6 ⟨r,s.items+1,0⟩=({flat0 with kind:=6,name:=n,within:=d},s5):=by
     show spanDef _=_
     unfold spanDef
     rw [jq3 h1,jx1 h2,jq3 e,jx1 h5]
     rfl
    rw [jq3 e]
    exact item_p6 E b s W h i hk t r hr he hit n s1 u2 s2 k s3 d s4 u5 s5 h1 h2 h3 h4 h5
   ·obtain ⟨n,s1,h1⟩: ∃n s1,name ⟨r,s.items+1,0⟩=(n,s1):=⟨_,_,rfl⟩
    obtain ⟨u2,s2,h2⟩: ∃n s2,expect [[61]] s1=(n,s2):=⟨_,_,rfl⟩
    obtain ⟨a,s3,h3⟩: ∃n s1,Pr.ratio s2=(n,s1):=⟨_,_,rfl⟩
    obtain ⟨u,s4,h4⟩: ∃n s1,name s3=(n,s1):=⟨_,_,rfl⟩
    obtain ⟨u5,s5,h5⟩: ∃n s2,expect [[59]] s4=(n,s2):=⟨_,_,rfl⟩
    have e:rbody 7 ⟨r,s.items+1,0⟩=({flat0 with kind:=7,name:=n,num:=a,unit:=u},s5):=by
     show sumDef _=_
     unfold sumDef
     rw [jq3 h1,jx1 h2,jq3 h3,jq3 h4,jx1 h5]
     rfl
    rw [jq3 e]
    exact item_p7 E b s W h i hk t r hr he hit n s1 u2 s2 a s3 u s4 u5 s5 h1 h2 h3 h4 h5
   ·obtain ⟨n,s1,h1⟩: ∃n s1,name ⟨r,s.items+1,0⟩=(n,s1):=⟨_,_,rfl⟩
    obtain ⟨V,s2,h2⟩: ∃V s2,actR n s1=(V,s2):=⟨_,_,rfl⟩
    have hV:=bare_act n s1
    rw [h2] at hV
    rw [show rbody 8=Pr.bnd name actR from rfl,bnd_pos h1 h2]
    exact item_p8 E b s W h i hk t r hr he hit n s1 V s2 h1 h2 hV.1 hV.2.1 hV.2.2
   ·obtain ⟨n,s1,h1⟩: ∃n s1,name ⟨r,s.items+1,0⟩=(n,s1):=⟨_,_,rfl⟩
    obtain ⟨V,s2,h2⟩: ∃V s2,dutyR n s1=(V,s2):=⟨_,_,rfl⟩
    have hV:=half_duty n s1
    rw [h2] at hV
    rw [show rbody 9=Pr.bnd name dutyR from rfl,bnd_pos h1 h2]
    exact item_p9 E b s W h i hk t r hr he hit n s1 V s2 h1 h2 hV.1 hV.2
   ·obtain ⟨n,s1,h1⟩: ∃n s1,name ⟨r,s.items+1,0⟩=(n,s1):=⟨_,_,rfl⟩
    obtain ⟨V,s2,h2⟩: ∃V s2,banR n s1=(V,s2):=⟨_,_,rfl⟩
    have hV:=half_ban n s1
    rw [h2] at hV
    rw [show rbody 10=Pr.bnd name banR from rfl,bnd_pos h1 h2]
    exact item_p10 E b s W h i hk t r hr he hit n s1 V s2 h1 h2 hV.1 hV.2
   ·obtain ⟨n,s1,h1⟩: ∃n s1,name ⟨r,s.items+1,0⟩=(n,s1):=⟨_,_,rfl⟩
    obtain ⟨V,s2,h2⟩: ∃V s2,optR n s1=(V,s2):=⟨_,_,rfl⟩
    have hV:=half_opt n s1
    rw [h2] at hV
    rw [show rbody 11=Pr.bnd name optR from rfl,bnd_pos h1 h2]
    exact item_p11 E b s W h i hk t r hr he hit n s1 V s2 h1 h2 hV.1 hV.2
   ·obtain ⟨n,s1,h1⟩: ∃n s1,name ⟨r,s.items+1,0⟩=(n,s1):=⟨_,_,rfl⟩
    obtain ⟨V,s2,h2⟩: ∃V s2,watR n s1=(V,s2):=⟨_,_,rfl⟩
    have hV:=half_wat n s1
    rw [h2] at hV
    rw [show rbody 12=Pr.bnd name watR from rfl,bnd_pos h1 h2]
    exact item_p12 E b s W h i hk t r hr he hit n s1 V s2 h1 h2 hV.1 hV.2
   ·obtain ⟨o,s1,h1⟩: ∃n s1,name ⟨r,s.items+1,0⟩=(n,s1):=⟨_,_,rfl⟩
    obtain ⟨u2,s2,h2⟩: ∃n s2,expect [[97,115]] s1=(n,s2):=⟨_,_,rfl⟩
    obtain ⟨n,s3,h3⟩: ∃n s3,name s2=(n,s3):=⟨_,_,rfl⟩
    obtain ⟨l,s4,h4⟩: ∃n s4,rnames s3=(n,s4):=⟨_,_,rfl⟩
    obtain ⟨u5,s5,h5⟩: ∃n s2,expect [[59]] s4=(n,s2):=⟨_,_,rfl⟩
    have e:rbody 14 ⟨r,s.items+1,0⟩=({flat0 with kind:=14,name:=n,of_:=o,names:=l},s5):=by
     show rincl _=_
     unfold rincl
     rw [jq3 h1,jx1 h2,jq3 h3,jq3 h4,jx1 h5]
     rfl
    rw [jq3 e]
    exact item_p14 E b s W h i hk t r hr he hit o s1 u2 s2 n s3 l s4 u5 s5 h1 h2 h3 h4 h5
end Go.Proofs.YtfaflipphkoiiaaDoor.Rp
namespace Go.Proofs.YtfaflipphkoiiaaDoor.Rp
open Pr
open Go.RowKit Mem
open Lx (Tok)
theorem own_frb {S:Nat→Prop} {w w1:World} {base:Nat} {e:TypeId} {size:Nat} {v:Value} {n:Nat} {xs:List Value} (h:w.ownsRow base e size v n xs) (hf:Fr S w w1) (hs: ∀k,v.ownBlock=some k→ ¬S k):w1.ownsRow base e size v n xs:=by
 refine ⟨h.1,?_⟩
 rcases h.2 with h2|⟨g,cap,cur,hv,hb,hh,r⟩
 ·exact .inl h2
 ·subst hv
  exact .inr ⟨g,cap,cur,rfl,hb,hf.blk hh (hs g rfl),r⟩
theorem blk_cells {g:Nat} {t:TypeId}: ∀(vs:List Value) (o:Nat) (w:World) (A old C:List Value),w.heap[g]?=some (.cells (A++old++C).toArray t (0,0))→A.length=o→old.length=vs.length→(w.setCells g o vs).heap[g]?=some (.cells (A++vs++C).toArray t (0,0))
 | [],o,w,A,old,C,h,h1,h2=>by
  have:old= []:=List.eq_nil_of_length_eq_zero (by simpa using h2)
  subst this
  exact h
 |v::vs,o,w,A,old,C,h,h1,h2=>by
  cases old with
  |nil=>simp at h2
  |cons x old=>
   have h3:=jx4 h o v
   have e:(A++x::old++C).toArray.setIfInBounds o v=(A++ [v]++old++C).toArray:=by
    rw [List.setIfInBounds_toArray]
    congr 1
    subst h1
    simp
   rw [e] at h3
   have:=blk_cells vs (o+1) _ (A++ [v]) old C h3 (by simp [h1]) (by simpa using h2)
   simpa [World.setCells] using this
theorem jk0 {g k:Nat} {ob:Obj}: ∀(vs:List Value) (o:Nat) (w:World),w.heap[k]?=some ob→k≠g→(w.setCells g o vs).heap[k]?=some ob
 | [],o,w,h,_=>h
 |v::vs,o,w,h,hk=>jk0 vs (o+1) _ (jq2 h hk v) hk
theorem kq4 {S:Nat→Prop} {A:World} {g:Nat} (hg:S g∨A.heap.size≤g): ∀(vs:List Value) (o:Nat) (B:World),Fr S A B→Fr S A (B.setCells g o vs)
 | [],o,B,h=>h
 |v::vs,o,B,h=>kq4 hg vs (o+1) _ (h.setCell (p:=⟨g,o,none⟩) hg v)
theorem own_there {w:World} {base n k:Nat} {e:TypeId} {gn cn:Nat} {xs:List Value} (h:w.ownsRow base e 33 (.slice (some ⟨gn,0,none⟩) n cn) n xs) (hk:k<n):w.there gn (k*33) 33:=by
 obtain ⟨h1,h2⟩:=h
 rcases h2 with ⟨h2,_⟩|⟨g,cap,cur,h3,h4,h5,h6,h7,h8,h9⟩
 ·cases h2
 ·injection h3 with h3 _ _;injection h3 with h3;injection h3 with h3 _ _
  subst h3
  intro j hj
  refine ⟨?_,jq1 h5 _⟩
  rw [jq0 h5,Array.getElem?_eq_getElem (by rw [h8];have:(k+1)*33≤cap*33:=Nat.mul_le_mul_right _ (by omega);omega)]
  rfl
theorem own_last {w:World} {base n:Nat} {e:TypeId} {gn cn:Nat} {xs old vs:List Value} (h:w.ownsRow base e 33 (.slice (some ⟨gn,0,none⟩) (n+1) cn) (n+1) (xs++old)) (ho:old.length=33) (hv:vs.length=33):
  (w.setCells gn (n*33) vs).ownsRow base e 33 (.slice (some ⟨gn,0,none⟩) (n+1) cn) (n+1) (xs++vs):=by
 obtain ⟨h1,h2⟩:=h
 rw [List.length_append] at h1
 rcases h2 with ⟨h2,_⟩|⟨g,cap,cur,h3,h4,h5,h6,h7,h8,h9⟩
 ·cases h2
 ·injection h3 with h3 _ h3c;injection h3 with h3;injection h3 with h3 _ _
  subst h3 h3c
  have hcur:cur.toList=xs++old++cur.toList.drop ((n+1)*33):=by
   have h10:=(List.take_append_drop ((n+1)*33) cur.toList).symm
   rw [h9] at h10
   exact h10
  have hc2:cur=(xs++old++cur.toList.drop ((n+1)*33)).toArray:=by
   rw [←hcur]
  rw [hc2] at h5
  have h10:=blk_cells vs (n*33) w xs old _ h5 (by omega) (by omega)
  refine ⟨by rw [List.length_append];omega,.inr ⟨gn,cn,_,rfl,h4,h10,h6,h7,?_,?_⟩⟩
  ·rw [←h8]
   have h13:=congrArg List.length hcur
   simp only [List.length_append,Array.length_toList,List.size_toArray,List.length_drop] at h13 ⊢
   omega
  ·have h14:(xs++vs++cur.toList.drop ((n+1)*33)).toArray.toList=(xs++vs)++cur.toList.drop ((n+1)*33):=by simp
   rw [h14]
   rw [List.take_append_of_le_length (by rw [List.length_append];omega)]
   exact List.take_of_length_le (by rw [List.length_append];omega)
theorem FlatOK.frb {S:Nat→Prop} {w w1:World} {base b2 n:Nat} {f:Flat} {sc sd sn v:Value} {xs:List Value} (h:FlatOK base f sc sd sn w) (hv:w.ownsRow b2 57 33 v n xs) (hf:Fr S w w1) (hs: ∀k,base≤k→S k→v.ownBlock=some k):FlatOK base f sc sd sn w1:=
 ⟨own_frb h.1 hf (fun k hk hS=>kx7 h.1 hv (by decide) k hk (hs k (own_lt h.1 k hk).1 hS)),own_frb h.2.1 hf (fun k hk hS=>kx7 h.2.1 hv (by decide) k hk (hs k (own_lt h.2.1 k hk).1 hS)),
  own_frb h.2.2 hf (fun k hk hS=>kx7 h.2.2 hv (by decide) k hk (hs k (own_lt h.2.2 k hk).1 hS))⟩
theorem RowI.frb {S:Nat→Prop} {w w1:World} {base b2 n:Nat} {l:List Flat} {si v:Value} {xs:List Value} (h:RowI base l si w) (hv:w.ownsRow b2 57 33 v n xs) (hf:Fr S w w1) (hs: ∀k,base≤k→S k→v.ownBlock=some k) (hne: ∀g,si.ownBlock=some g→v.ownBlock≠some g):RowI base l si w1:=by
 have hl:=h.lt
 obtain ⟨h0,vs,h1,h2,h3⟩:=h
 exact ⟨h0,vs,h1,own_frb h2 hf (fun k hk hS=>hne k hk (hs k (hl k hk).1 hS)),fun p hp=>Rp.FlatOK.frb (h3 p hp) hv hf hs⟩
theorem RowSv.snocF {S:Nat→Prop} {base:Nat} {l:List Pr.Item} {vs:List Sl} {v:Value} {w w5:World} (h:RowSv base l vs v w) (hf:Fr S w w5) (hs: ∀k,base≤k→S k→v.ownBlock=some k) {x:Pr.Item} {sc sd sn si:Value}
  (hF:FlatOK base x.flat sc sd sn w) (hI:RowI base x.inner si w) (hIv: ∀g,si.ownBlock=some g→v.ownBlock≠some g) {g cap:Nat} (hown:w5.ownsRow base 57 33 (.slice (some ⟨g,0,none⟩) (l.length+1) cap) (l.length+1) (scells l vs++icells x.flat sc sd sn si)) (hat:v.ownBlock=some g∨w.heap.size≤g):
  RowSv base (l++ [x]) (vs++ [(sc,sd,sn,si)]) (.slice (some ⟨g,0,none⟩) (l.length+1) cap) w5:=by
 have hv:=h.2.2.1
 have hz:(l++ [x]).zip (vs++ [(sc,sd,sn,si)])=l.zip vs++ [(x,sc,sd,sn,si)]:=by
  rw [List.zip_append h.2.1.symm];rfl
 refine ⟨fun e=>by simp at e,by simp [h.2.1],?_,?_⟩
 ·unfold scells
  rw [hz,List.flatMap_append,List.length_append]
  have e: [(x,sc,sd,sn,si)].flatMap (fun p:Pr.Item×Sl=>icells p.1.flat p.2.1 p.2.2.1 p.2.2.2.1 p.2.2.2.2)=icells x.flat sc sd sn si:=by simp
  rw [e]
  exact hown
 ·rw [hz]
  intro p hp
  rcases List.mem_append.1 hp with hp|hp
  ·obtain ⟨p1,p2,p3⟩:=h.2.2.2 p hp
   refine ⟨Rp.FlatOK.frb p1 hv hf hs,Rp.RowI.frb p2 hv hf hs p3,?_⟩
   intro k hk e
   simp only [Value.ownBlock] at e
   injection e with e
   rcases hat with hat|hat
   ·exact p3 k hk (by rw [hat,e])
   ·have:=(p2.lt k hk).2
    omega
  ·rw [List.mem_singleton] at hp
   subst hp
   refine ⟨Rp.FlatOK.frb hF hv hf hs,Rp.RowI.frb hI hv hf hs hIv,?_⟩
   intro k hk e
   simp only [Value.ownBlock] at e
   injection e with e
   rcases hat with hat|hat
   ·exact hIv k hk (by rw [hat,e])
   ·have:=(hI.lt k hk).2
    omega
theorem PW.okn {E:Env} {b:Nat} {s:St} {w:World} (h:PW E b s w):okn b w=if s.err=0 then 1 else 0:=by
 obtain ⟨n,h1,h2,_,_,_,_,c4,_⟩:=h.cells
 unfold Pr.okn
 rw [c4]
 by_cases he:s.err=0
 ·simp [he]
 ·rw [if_neg he]
  split
  ·rename_i h
   injection h with h
   injection h with _ h
   omega
  ·rfl
theorem rkind_13 (s:St): ∀(l:List (Bytes×Nat)),rkind true s l≠13
 | []=>by show (0:Nat)≠13;decide
 |p::l=>by
  unfold rkind
  split
  ·rename_i h
   intro e
   rw [e] at h
   simp [okIn] at h
  ·exact rkind_13 s l
theorem run_bslice0 (w:World):(Instr.buildSlice 25 1 #[(0,.agg (icells flat0 nil nil nil nil).toArray)]).run Tryd.prog w= .ok (.slice (some ⟨w.heap.size,0,none⟩) 1 1) (w.alloc (.cells (icells flat0 nil nil nil nil).toArray 57)):=run_bslice flat0 nil nil nil nil w
theorem wp_bslice0 {o:Oper} {a:Act} {w:World} {K:Act→World→Prop} {Q:Exit→Act→World→Prop} (x:Operand) (hop:o.op= .buildSlice 25 1 #[(0,x)]) (hx:a.eval x= .agg (icells flat0 nil nil nil nil).toArray)
  (h:K (a.put o.dst (.slice (some ⟨w.heap.size,0,none⟩) 1 1)) (w.alloc (.cells (icells flat0 nil nil nil nil).toArray 57))):o.wp Tryd.prog a w K Q:=by
 unfold Oper.wp
 simp [execOp,hop,hx,run_bslice0,Result.andThen]
 exact h
def TB (E:Env) (b q:Nat) (fl:Flat) (sn:Value) (w0:World) (l:List Flat) (s':St) (wr:World):Prop:=
 ∃(vs:List Sl) (si:Value),IB q fl nil nil sn si wr∧RowSv w0.heap.size (solo l) vs si wr∧After2 E b q s' w0 wr
end Go.Proofs.YtfaflipphkoiiaaDoor.Rp
namespace Go.Proofs.YtfaflipphkoiiaaDoor.Rp
open Go.RowKit Mem Pr
open Lx (Tok isDigit isLetter isSym)
theorem frg {A B:World} {row:Option Nat} (hg:A.grownBy B row):Fr (fun k=>row=some k) A B:=(Fr.refl _ A).grown hg (fun k hk=> .inl hk)
theorem info_size' {f:Flat} {sc sd sn si:Value}:(icells f sc sd sn si).toArray.size=33:=rfl
theorem templ_r3 {E:Env} {b q:Nat} {fl x:Flat} {sn:Value} {w0 X:World} {l:List Flat} {s' sx2:St} {u2 u3 u4 u5 u6 u7 u8 u9 u10 u11 u12 u13 u14 u15 u16 u17 u18 u19 u20 u21 u22 u23 u24 u25 u26 u27 u28 u29 u30 u31 u32:Value} {Q:Exit→Act→World→Prop} {C:Code} (hC:C=Cut.region Tryd.f51 3) (hT:TB E b q fl sn w0 l s' X) (hx:rflat true s'=(x,sx2)) (hbq:b<q) (hq:q<w0.heap.size) (hln:(solo l).length≤5002) (hP:Cut.Blind Q)
  (hQ: ∀(v21 v22 v23 v24 v25 v26 v27 v28 v29 v30 v31 v32:Value) (wx:World),TB E b q fl sn w0 (l++ [x]) sx2 wx→Q .normal ⟨#[.pointer (some ⟨b,0,none⟩),.pointer (some ⟨q,0,none⟩),u2,u3,u4,u5,u6,u7,u8,u9,u10,u11,u12,u13,u14,u15,u16,u17,u18,u19,u20,v21,v22,v23,v24,v25,v26,v27,v28,v29,v30,v31,v32],[]⟩ wx):
  Code.wp Tryd.prog C Q ⟨#[.pointer (some ⟨b,0,none⟩),.pointer (some ⟨q,0,none⟩),u2,u3,u4,u5,u6,u7,u8,u9,u10,u11,u12,u13,u14,u15,u16,u17,u18,u19,u20,u21,u22,u23,u24,u25,u26,u27,u28,u29,u30,u31,u32],[]⟩ X:=by
 subst hC
 conv=>arg 2;whnf
 refine Reg.G.start (by kernel_rfl) ?_
 obtain ⟨vs,si,hI,hRS,hA⟩:=hT
 obtain ⟨A5,cap5,rfl⟩:=hRS.form
 obtain ⟨zv,hzz,hz33⟩:=info_itemz
 obtain ⟨i0,hi,hz0,hz1,hz2⟩:=info_parts hzz
 obtain ⟨Xd,hXd⟩: ∃Y,X.drew=Y:=⟨_,rfl⟩
 have HI0:Hid (IB q fl nil nil sn (.slice A5 (solo l).length cap5) Xd):=by rw [←hXd];exact hI
 have HR0:Hid (RowSv w0.heap.size (solo l) vs (.slice A5 (solo l).length cap5) Xd):=by rw [←hXd];exact hRS
 have HA0:Hid (After2 E b q s' w0 Xd):=by rw [←hXd];exact hA.drewN 1
 have HX:=hdd hx
 have n1:(0:Int)≤((solo l).length:Int):=Int.natCast_nonneg _
 have n2:((solo l).length:Int)<((solo l).length:Int)+1:=by omega
 rw [hXd]
 clear hXd hI hRS hA hx
 refine' Reg.G.pure (i:=0) (v:=_) rfl (by rfl) (by kernel_rfl) (by kernel_rfl) (by kernel_rfl) (fun _ _ _ h=>hP _ _ _ _ _ h) ?hytm1 ?rehytm1
 case hytm1=>exact fun w=>by first|(go_simp;done)|(go_simp;with_reducible rfl)
 simp only [Act.put,List.setIfInBounds_toArray,List.set_cons_zero,List.set_cons_succ]
 refine' Reg.G.pure (i:=1) (v:=_) rfl (by rfl) (by kernel_rfl) (by kernel_rfl) (by kernel_rfl) (fun _ _ _ h=>hP _ _ _ _ _ h) ?hytm2 ?rehytm2
 case hytm2=>exact fun w=>by first|(go_simp;done)|(go_simp;with_reducible rfl)
 simp only [Act.put,List.setIfInBounds_toArray,List.set_cons_zero,List.set_cons_succ]
 refine' Reg.G.pure (i:=2) (v:=_) rfl (by rfl) (by kernel_rfl) (by kernel_rfl) (by kernel_rfl) (fun _ _ _ h=>hP _ _ _ _ _ h) ?hytm3 ?rehytm3
 case hytm3=>exact fun w=>by first|(go_simp;done)|(go_simp;with_reducible rfl)
 simp only [Act.put,List.setIfInBounds_toArray,List.set_cons_zero,List.set_cons_succ]
 refine' Reg.G.take (i:=3) (v:=_) (F:=(fun w=>IB q fl nil nil sn (.slice A5 (solo l).length cap5) w)) rfl (by rfl) (by kernel_rfl) (by kernel_rfl) (by kernel_rfl) (fun _ _ _ h=>hP _ _ _ _ _ h) (HI0.o) ?hytm4 ?rehytm4
 case hytm4=>intro w hw;have kc:w.cell? ⟨q,32,none⟩=some (.slice A5 (solo l).length cap5):=jq0 hw 32;clear hw;first|(go_simp;done)|(go_simp;with_reducible rfl)
 simp only [Act.put,List.setIfInBounds_toArray,List.set_cons_zero,List.set_cons_succ]
 refine' Reg.G.pure (i:=4) (v:=_) rfl (by rfl) (by kernel_rfl) (by kernel_rfl) (by kernel_rfl) (fun _ _ _ h=>hP _ _ _ _ _ h) ?hytm5 ?rehytm5
 case hytm5=>exact fun w=>by first|(go_simp;done)|(go_simp;with_reducible rfl)
 simp only [Act.put,List.setIfInBounds_toArray,List.set_cons_zero,List.set_cons_succ]
 refine' Reg.G.pure (i:=6) (v:=_) rfl (by rfl) (by kernel_rfl) (by kernel_rfl) (by kernel_rfl) (fun _ _ _ h=>hP _ _ _ _ _ h) ?hytm6 ?rehytm6
 case hytm6=>exact fun w=>by first|(go_simp;done)|(go_simp;with_reducible rfl)
 simp only [Act.put,List.setIfInBounds_toArray,List.set_cons_zero,List.set_cons_succ]
 refine Reg.G.two (j1:=5) (j2:=7) (m1:= [true]) (m2:= [true]) [3] rfl rfl (by kernel_rfl) rfl (by kernel_rfl) (by kernel_rfl) (fun K hK=>?_) (fun K hK=>?_)
 ·go_simp
  refine (kz3 E b s' _ HA0.o.1 true (rkind_13 _ _)).mono ?_
  rw [HX.o]
  rintro e y1 ⟨⟨sc,sd,sx,rfl,hF⟩,hA1⟩
  have hsz:=hA1.2.size
  have hsw:=HA0.o.2.size
  have HA1:=hdd (HA0.o.trans hA1)
  have HI1:Hid (IB q fl nil nil sn (.slice A5 (solo l).length cap5) y1):=hA1.2.blk HI0.o (by omega)
  have HR1:=hdd (HR0.o.fr hA1.2 (fun k hk _ e=>by omega))
  have HO1:Hid (FlatOK w0.heap.size x sc sd sx y1):=hF.carry fun e z v n xs ho=>own_base ho (by omega)
  clear hF hA1 hsz hsw
  refine hK.out _ _ ⟨HI1.o,trivial⟩ ?_
  clear hK K
  simp only [Act.put,List.setIfInBounds_toArray,List.set_cons_zero,List.set_cons_succ,Reg.Kept]
  refine Reg.G.step (j:=7) (m:= [true]) [3] rfl (by kernel_rfl) rfl (by kernel_rfl) (fun K hK=>?_)
  refine wp_bslice0 _ rfl (by rfl) ?_
  obtain ⟨z,HZN0⟩: ∃z,Hid (y1.heap.size=z):=⟨_,rfl⟩
  have hsw:=HA1.o.2.size
  have HZN:Hid (b<z):=by show b<z;have:=HZN0.o;omega
  obtain ⟨y2,hu⟩: ∃u,y1.alloc (.cells (icells flat0 nil nil nil nil).toArray 57)=u:=⟨_,rfl⟩
  rw [HZN0.o,hu]
  have HZ2:Hid (y2.heap[z]?=some (.cells (icells flat0 nil nil nil nil).toArray 57 (0,0))):=by rw [←hu];exact jq5 HZN0.o.symm
  have HA2:Hid (After2 E b q sx2 w0 y2):=by rw [←hu];exact HA1.o.alloc _
  have HI2:Hid (IB q fl nil nil sn (.slice A5 (solo l).length cap5) y2):=by rw [←hu];exact jq9 HI1.o _
  have HR2:Hid (RowSv w0.heap.size (solo l) vs (.slice A5 (solo l).length cap5) y2):=by rw [←hu];exact HR1.o.fr (S:=fun _=>False) ((Fr.refl _ _).alloc _) (fun _ _ _ e=>e)
  have HO2:Hid (FlatOK w0.heap.size x sc sd sx y2):=by rw [←hu];exact HO1.o.carry fun e z v n xs ho=>jx5 ho ((Fr.refl (fun _=>False) _).alloc _) (fun _ _ _ e=>e)
  clear hu hsw
  refine hK.out _ _ ⟨HI2.o,trivial⟩ ?_
  clear hK K
  simp only [Act.put,List.setIfInBounds_toArray,List.set_cons_zero,List.set_cons_succ,Reg.Kept]
  refine Reg.G.step (j:=8) (m:= [false]) [3] rfl (by kernel_rfl) rfl (by kernel_rfl) (fun K hK=>?_)
  have hsw:=HA2.o.2.size
  refine wp_append_lies y2 (.tmp 24) (.tmp 28) 25 rfl w0.heap.size 57 i0 _ 33 368 Tryd.underlying25 hi hz0 hz1 hz2 hz33 (by decide) (.slice A5 (solo l).length cap5) (solo l).length _ (by rfl) HR2.o.2.2.1 ⟨z,0,none⟩ 1 1 (icells flat0 nil nil nil nil) (by rfl) (by rfl) (World.news_of_block (cs:=(icells flat0 nil nil nil nil).toArray) HZ2.o) (jv4 _ _ _ _ _ ⟨_,_,_,rfl⟩ ⟨_,_,_,rfl⟩ ⟨_,_,_,rfl⟩ ⟨_,_,_,rfl⟩) (by decide) (by simp only [maxLen];omega) (by omega) (by omega) y2.heap.size rfl ?_
  intro gg cap1 y3 g1 g2 g3 _
  have HLT:Hid (∀k,(Value.slice A5 (solo l).length cap5).ownBlock=some k→w0.heap.size≤k∧k<y2.heap.size):=own_lt HR2.o.2.2.1
  have HFW:Hid (Fr (fun k=>k=q∨(Value.slice A5 (solo l).length cap5).ownBlock=some k) y2 y3):=(frg g2).mono (fun _ _ e=> .inr e)
  have HA3:Hid (After2 E b q sx2 w0 y3):=HA2.o.fr ((frg g2).mono (fun k _ e=>(HLT.o k e).1)) (by omega)
  have HI3:Hid (IB q fl nil nil sn (.slice A5 (solo l).length cap5) y3):=(frg g2).blk HI2.o (fun e=>by have:=(HLT.o q e).1;omega)
  have HOW3:Hid (y3.ownsRow w0.heap.size 57 33 (.slice (some ⟨gg,0,none⟩) ((solo l).length+1) cap1) ((solo l).length+1) (scells (solo l) vs++(icells flat0 nil nil nil nil))):=g1
  have HAT:Hid ((Value.slice A5 (solo l).length cap5).ownBlock=some gg∨y2.heap.size≤gg):=g3.imp id (fun e=>Nat.le_of_eq e.symm)
  have HGQ:Hid (w0.heap.size≤gg):=(own_lt g1 gg rfl).1
  clear g1 g2 g3 hsw
  refine hK.out _ _ trivial ?_
  clear hK K
  simp only [Act.put,List.setIfInBounds_toArray,List.set_cons_zero,List.set_cons_succ,Reg.Kept]
  refine' Reg.G.pure (i:=9) (v:=_) rfl (by rfl) (by kernel_rfl) (by kernel_rfl) (by kernel_rfl) (fun _ _ _ h=>hP _ _ _ _ _ h) ?hytm7 ?rehytm7
  case hytm7=>exact fun w=>by first|(go_simp;done)|(go_simp;with_reducible rfl)
  simp only [Act.put,List.setIfInBounds_toArray,List.set_cons_zero,List.set_cons_succ]
  refine' Reg.G.pure (i:=11) (v:=_) rfl (by rfl) (by kernel_rfl) (by kernel_rfl) (by kernel_rfl) (fun _ _ _ h=>hP _ _ _ _ _ h) ?hytm8 ?rehytm8
  case hytm8=>exact fun w=>by first|(go_simp;done)|(go_simp;with_reducible rfl)
  simp only [Act.put,List.setIfInBounds_toArray,List.set_cons_zero,List.set_cons_succ]
  refine' Reg.G.pure (i:=12) (v:=_) rfl (by rfl) (by kernel_rfl) (by kernel_rfl) (by kernel_rfl) (fun _ _ _ h=>hP _ _ _ _ _ h) ?hytm9 ?rehytm9
  case hytm9=>exact fun w=>by first|(go_simp;done)|(go_simp;with_reducible rfl)
  simp only [Act.put,List.setIfInBounds_toArray,List.set_cons_zero,List.set_cons_succ]
  refine Reg.G.two (j1:=10) (j2:=13) (m1:= []) (m2:= []) [] rfl rfl (by kernel_rfl) rfl (by kernel_rfl) (by kernel_rfl) (fun K hK=>?_) (fun K hK=>?_)
  ·have hth:y3.there gg ((solo l).length*33) (icells x sc sd sx nil).toArray.size:=by rw [info_size'];exact own_there HOW3.o (by omega)
   refine wp_store_mid 57 _ _ rfl gg ((solo l).length*33) (icells x sc sd sx nil).toArray rfl rfl hth (jq6 _ _ _ _ _) (by rw [←Array.all_toList];exact List.all_eq_true.2 (jv4 x sc sd sx nil HO2.o.forms.1 HO2.o.forms.2.1 HO2.o.forms.2.2 ⟨_,_,_,rfl⟩)) ?_
   obtain ⟨y4,hu⟩: ∃u,y3.setCells gg ((solo l).length*33) (icells x sc sd sx nil).toArray.toList=u:=⟨_,rfl⟩
   rw [hu]
   have hgq:=HGQ.o
   have HFW4:Hid (Fr (fun k=>k=q∨(Value.slice A5 (solo l).length cap5).ownBlock=some k) y2 y4):=by rw [←hu];exact kq4 (HAT.o.imp .inr id) _ _ _ HFW.o
   have HA4:Hid (After2 E b q sx2 w0 y4):=by rw [←hu];exact HA3.o.fr (kq4 (S:=fun k=>w0.heap.size≤k) (.inl hgq) _ _ _ (Fr.refl _ _)) (by omega)
   have HI4:Hid (IB q fl nil nil sn (.slice A5 (solo l).length cap5) y4):=by rw [←hu];exact jk0 _ _ _ HI3.o (by omega)
   have HOW4:Hid (y4.ownsRow w0.heap.size 57 33 (.slice (some ⟨gg,0,none⟩) ((solo l).length+1) cap1) ((solo l).length+1) (scells (solo l) vs++(icells x sc sd sx nil))):=by rw [←hu];exact own_last HOW3.o rfl rfl
   clear hu hth hgq
   refine hK.out _ _ trivial ?_
   clear hK K
   simp only [Act.put,List.setIfInBounds_toArray,List.set_cons_zero,List.set_cons_succ,Reg.Kept]
   refine Reg.G.step (j:=13) (m:= []) [] rfl (by kernel_rfl) rfl (by kernel_rfl) (fun K hK=>?_)
   have ko:y4.cell? ⟨q,32,none⟩=some (.slice A5 (solo l).length cap5):=jq0 HI4.o 32
   have fo:y4.frozen? ⟨q,32,none⟩=false:=jq1 HI4.o 32
   go_simp
   obtain ⟨y5,hu⟩: ∃u,y4.setCell ⟨q,32,none⟩ (.slice (some ⟨gg,0,none⟩) ((solo l).length+1) cap1)=u:=⟨_,rfl⟩
   rw [hu]
   have hgq:=HGQ.o
   have HFW5:Hid (Fr (fun k=>k=q∨(Value.slice A5 (solo l).length cap5).ownBlock=some k) y2 y5):=by rw [←hu];exact HFW4.o.setCell (p:=⟨q,32,none⟩) (.inl (.inl rfl)) _
   have HA5:Hid (After2 E b q sx2 w0 y5):=by rw [←hu];exact HA4.o.set (by omega) _
   have HI5:Hid (IB q fl nil nil sn (.slice (some ⟨gg,0,none⟩) ((solo l).length+1) cap1) y5):=by rw [←hu];exact IB.set_si HI4.o _
   have HOW5:Hid (y5.ownsRow w0.heap.size 57 33 (.slice (some ⟨gg,0,none⟩) ((solo l).length+1) cap1) ((solo l).length+1) (scells (solo l) vs++(icells x sc sd sx nil))):=by rw [←hu];exact own_frb HOW4.o ((Fr.refl (fun k=>k=q) _).setb 32 _) (fun k hk e=>by have:gg=k:=(by simpa [Value.ownBlock] using hk);omega)
   clear hu hgq ko fo
   refine hK.out _ _ trivial ?_
   clear hK K
   simp only [Act.put,List.setIfInBounds_toArray,List.set_cons_zero,List.set_cons_succ,Reg.Kept]
   refine Reg.G.done (by kernel_rfl) ?_
   exact hQ _ _ _ _ _ _ _ _ _ _ _ _ _ ⟨_,_,HI5.o,by rw [kx0];exact RowSv.snocF (x:=⟨x,[]⟩) HR2.o HFW5.o (fun k hk e=>e.elim (fun e=>by omega) id) HO2.o (RowI.nil _ _) (fun g hg=>by cases hg) HOW5.o HAT.o,HA5.o⟩
  ·have ko:y3.cell? ⟨q,32,none⟩=some (.slice A5 (solo l).length cap5):=jq0 HI3.o 32
   have fo:y3.frozen? ⟨q,32,none⟩=false:=jq1 HI3.o 32
   go_simp
   obtain ⟨y6,hu⟩: ∃u,y3.setCell ⟨q,32,none⟩ (.slice (some ⟨gg,0,none⟩) ((solo l).length+1) cap1)=u:=⟨_,rfl⟩
   rw [hu]
   have hgq:=HGQ.o
   have HFW6:Hid (Fr (fun k=>k=q∨(Value.slice A5 (solo l).length cap5).ownBlock=some k) y2 y6):=by rw [←hu];exact HFW.o.setCell (p:=⟨q,32,none⟩) (.inl (.inl rfl)) _
   have HA6:Hid (After2 E b q sx2 w0 y6):=by rw [←hu];exact HA3.o.set (by omega) _
   have HI6:Hid (IB q fl nil nil sn (.slice (some ⟨gg,0,none⟩) ((solo l).length+1) cap1) y6):=by rw [←hu];exact IB.set_si HI3.o _
   have HOW6:Hid (y6.ownsRow w0.heap.size 57 33 (.slice (some ⟨gg,0,none⟩) ((solo l).length+1) cap1) ((solo l).length+1) (scells (solo l) vs++(icells flat0 nil nil nil nil))):=by rw [←hu];exact own_frb HOW3.o ((Fr.refl (fun k=>k=q) _).setb 32 _) (fun k hk e=>by have:gg=k:=(by simpa [Value.ownBlock] using hk);omega)
   clear hu hgq ko fo
   refine hK.out _ _ trivial ?_
   clear hK K
   simp only [Act.put,List.setIfInBounds_toArray,List.set_cons_zero,List.set_cons_succ,Reg.Kept]
   refine Reg.G.step (j:=10) (m:= []) [] rfl (by kernel_rfl) rfl (by kernel_rfl) (fun K hK=>?_)
   have hth:y6.there gg ((solo l).length*33) (icells x sc sd sx nil).toArray.size:=by rw [info_size'];exact own_there HOW6.o (by omega)
   refine wp_store_mid 57 _ _ rfl gg ((solo l).length*33) (icells x sc sd sx nil).toArray rfl rfl hth (jq6 _ _ _ _ _) (by rw [←Array.all_toList];exact List.all_eq_true.2 (jv4 x sc sd sx nil HO2.o.forms.1 HO2.o.forms.2.1 HO2.o.forms.2.2 ⟨_,_,_,rfl⟩)) ?_
   obtain ⟨y7,hu⟩: ∃u,y6.setCells gg ((solo l).length*33) (icells x sc sd sx nil).toArray.toList=u:=⟨_,rfl⟩
   rw [hu]
   have hgq:=HGQ.o
   have HFW7:Hid (Fr (fun k=>k=q∨(Value.slice A5 (solo l).length cap5).ownBlock=some k) y2 y7):=by rw [←hu];exact kq4 (HAT.o.imp .inr id) _ _ _ HFW6.o
   have HA7:Hid (After2 E b q sx2 w0 y7):=by rw [←hu];exact HA6.o.fr (kq4 (S:=fun k=>w0.heap.size≤k) (.inl hgq) _ _ _ (Fr.refl _ _)) (by omega)
   have HI7:Hid (IB q fl nil nil sn (.slice (some ⟨gg,0,none⟩) ((solo l).length+1) cap1) y7):=by rw [←hu];exact jk0 _ _ _ HI6.o (by omega)
   have HOW7:Hid (y7.ownsRow w0.heap.size 57 33 (.slice (some ⟨gg,0,none⟩) ((solo l).length+1) cap1) ((solo l).length+1) (scells (solo l) vs++(icells x sc sd sx nil))):=by rw [←hu];exact own_last HOW6.o rfl rfl
   clear hu hth hgq
   refine hK.out _ _ trivial ?_
   clear hK K
   simp only [Act.put,List.setIfInBounds_toArray,List.set_cons_zero,List.set_cons_succ,Reg.Kept]
   refine Reg.G.done (by kernel_rfl) ?_
   exact hQ _ _ _ _ _ _ _ _ _ _ _ _ _ ⟨_,_,HI7.o,by rw [kx0];exact RowSv.snocF (x:=⟨x,[]⟩) HR2.o HFW7.o (fun k hk e=>e.elim (fun e=>by omega) id) HO2.o (RowI.nil _ _) (fun g hg=>by cases hg) HOW7.o HAT.o,HA7.o⟩
 ·refine wp_bslice0 _ rfl (by rfl) ?_
  obtain ⟨z,HZN0⟩: ∃z,Hid (Xd.heap.size=z):=⟨_,rfl⟩
  have hsw:=HA0.o.2.size
  have HZN:Hid (b<z):=by show b<z;have:=HZN0.o;omega
  obtain ⟨y8,hu⟩: ∃u,Xd.alloc (.cells (icells flat0 nil nil nil nil).toArray 57)=u:=⟨_,rfl⟩
  rw [HZN0.o,hu]
  have HZ8:Hid (y8.heap[z]?=some (.cells (icells flat0 nil nil nil nil).toArray 57 (0,0))):=by rw [←hu];exact jq5 HZN0.o.symm
  have HA8:Hid (After2 E b q s' w0 y8):=by rw [←hu];exact HA0.o.alloc _
  have HI8:Hid (IB q fl nil nil sn (.slice A5 (solo l).length cap5) y8):=by rw [←hu];exact jq9 HI0.o _
  have HR8:Hid (RowSv w0.heap.size (solo l) vs (.slice A5 (solo l).length cap5) y8):=by rw [←hu];exact HR0.o.fr (S:=fun _=>False) ((Fr.refl _ _).alloc _) (fun _ _ _ e=>e)
  clear hu hsw
  refine hK.out _ _ ⟨HI8.o,trivial⟩ ?_
  clear hK K
  simp only [Act.put,List.setIfInBounds_toArray,List.set_cons_zero,List.set_cons_succ,Reg.Kept]
  refine Reg.G.step (j:=5) (m:= [true]) [3] rfl (by kernel_rfl) rfl (by kernel_rfl) (fun K hK=>?_)
  go_simp
  refine (kz3 E b s' _ HA8.o.1 true (rkind_13 _ _)).mono ?_
  rw [HX.o]
  rintro e y9 ⟨⟨sc,sd,sx,rfl,hF⟩,hA1⟩
  have hsz:=hA1.2.size
  have hsw:=HA8.o.2.size
  have HA9:=hdd (HA8.o.trans hA1)
  have HI9:Hid (IB q fl nil nil sn (.slice A5 (solo l).length cap5) y9):=hA1.2.blk HI8.o (by omega)
  have HR9:=hdd (HR8.o.fr hA1.2 (fun k hk _ e=>by omega))
  have HO9:Hid (FlatOK w0.heap.size x sc sd sx y9):=hF.carry fun e z v n xs ho=>own_base ho (by omega)
  have HZ9:Hid (y9.heap[z]?=some (.cells (icells flat0 nil nil nil nil).toArray 57 (0,0))):=hA1.2.blk HZ8.o (by have:=HZN.o;omega)
  clear hF hA1 hsz hsw
  refine hK.out _ _ ⟨HI9.o,trivial⟩ ?_
  clear hK K
  simp only [Act.put,List.setIfInBounds_toArray,List.set_cons_zero,List.set_cons_succ,Reg.Kept]
  refine Reg.G.step (j:=8) (m:= [false]) [3] rfl (by kernel_rfl) rfl (by kernel_rfl) (fun K hK=>?_)
  have hsw:=HA9.o.2.size
  refine wp_append_lies y9 (.tmp 24) (.tmp 28) 25 rfl w0.heap.size 57 i0 _ 33 368 Tryd.underlying25 hi hz0 hz1 hz2 hz33 (by decide) (.slice A5 (solo l).length cap5) (solo l).length _ (by rfl) HR9.o.2.2.1 ⟨z,0,none⟩ 1 1 (icells flat0 nil nil nil nil) (by rfl) (by rfl) (World.news_of_block (cs:=(icells flat0 nil nil nil nil).toArray) HZ9.o) (jv4 _ _ _ _ _ ⟨_,_,_,rfl⟩ ⟨_,_,_,rfl⟩ ⟨_,_,_,rfl⟩ ⟨_,_,_,rfl⟩) (by decide) (by simp only [maxLen];omega) (by omega) (by omega) y9.heap.size rfl ?_
  intro gg cap1 y10 g1 g2 g3 _
  have HLT:Hid (∀k,(Value.slice A5 (solo l).length cap5).ownBlock=some k→w0.heap.size≤k∧k<y9.heap.size):=own_lt HR9.o.2.2.1
  have HFW:Hid (Fr (fun k=>k=q∨(Value.slice A5 (solo l).length cap5).ownBlock=some k) y9 y10):=(frg g2).mono (fun _ _ e=> .inr e)
  have HA10:Hid (After2 E b q sx2 w0 y10):=HA9.o.fr ((frg g2).mono (fun k _ e=>(HLT.o k e).1)) (by omega)
  have HI10:Hid (IB q fl nil nil sn (.slice A5 (solo l).length cap5) y10):=(frg g2).blk HI9.o (fun e=>by have:=(HLT.o q e).1;omega)
  have HOW10:Hid (y10.ownsRow w0.heap.size 57 33 (.slice (some ⟨gg,0,none⟩) ((solo l).length+1) cap1) ((solo l).length+1) (scells (solo l) vs++(icells flat0 nil nil nil nil))):=g1
  have HAT:Hid ((Value.slice A5 (solo l).length cap5).ownBlock=some gg∨y9.heap.size≤gg):=g3.imp id (fun e=>Nat.le_of_eq e.symm)
  have HGQ:Hid (w0.heap.size≤gg):=(own_lt g1 gg rfl).1
  clear g1 g2 g3 hsw
  refine hK.out _ _ trivial ?_
  clear hK K
  simp only [Act.put,List.setIfInBounds_toArray,List.set_cons_zero,List.set_cons_succ,Reg.Kept]
  refine' Reg.G.pure (i:=9) (v:=_) rfl (by rfl) (by kernel_rfl) (by kernel_rfl) (by kernel_rfl) (fun _ _ _ h=>hP _ _ _ _ _ h) ?hytm10 ?rehytm10
  case hytm10=>exact fun w=>by first|(go_simp;done)|(go_simp;with_reducible rfl)
  simp only [Act.put,List.setIfInBounds_toArray,List.set_cons_zero,List.set_cons_succ]
  refine' Reg.G.pure (i:=11) (v:=_) rfl (by rfl) (by kernel_rfl) (by kernel_rfl) (by kernel_rfl) (fun _ _ _ h=>hP _ _ _ _ _ h) ?hytm11 ?rehytm11
  case hytm11=>exact fun w=>by first|(go_simp;done)|(go_simp;with_reducible rfl)
  simp only [Act.put,List.setIfInBounds_toArray,List.set_cons_zero,List.set_cons_succ]
  refine' Reg.G.pure (i:=12) (v:=_) rfl (by rfl) (by kernel_rfl) (by kernel_rfl) (by kernel_rfl) (fun _ _ _ h=>hP _ _ _ _ _ h) ?hytm12 ?rehytm12
  case hytm12=>exact fun w=>by first|(go_simp;done)|(go_simp;with_reducible rfl)
  simp only [Act.put,List.setIfInBounds_toArray,List.set_cons_zero,List.set_cons_succ]
  refine Reg.G.two (j1:=10) (j2:=13) (m1:= []) (m2:= []) [] rfl rfl (by kernel_rfl) rfl (by kernel_rfl) (by kernel_rfl) (fun K hK=>?_) (fun K hK=>?_)
  ·have hth:y10.there gg ((solo l).length*33) (icells x sc sd sx nil).toArray.size:=by rw [info_size'];exact own_there HOW10.o (by omega)
   refine wp_store_mid 57 _ _ rfl gg ((solo l).length*33) (icells x sc sd sx nil).toArray rfl rfl hth (jq6 _ _ _ _ _) (by rw [←Array.all_toList];exact List.all_eq_true.2 (jv4 x sc sd sx nil HO9.o.forms.1 HO9.o.forms.2.1 HO9.o.forms.2.2 ⟨_,_,_,rfl⟩)) ?_
   obtain ⟨y11,hu⟩: ∃u,y10.setCells gg ((solo l).length*33) (icells x sc sd sx nil).toArray.toList=u:=⟨_,rfl⟩
   rw [hu]
   have hgq:=HGQ.o
   have HFW11:Hid (Fr (fun k=>k=q∨(Value.slice A5 (solo l).length cap5).ownBlock=some k) y9 y11):=by rw [←hu];exact kq4 (HAT.o.imp .inr id) _ _ _ HFW.o
   have HA11:Hid (After2 E b q sx2 w0 y11):=by rw [←hu];exact HA10.o.fr (kq4 (S:=fun k=>w0.heap.size≤k) (.inl hgq) _ _ _ (Fr.refl _ _)) (by omega)
   have HI11:Hid (IB q fl nil nil sn (.slice A5 (solo l).length cap5) y11):=by rw [←hu];exact jk0 _ _ _ HI10.o (by omega)
   have HOW11:Hid (y11.ownsRow w0.heap.size 57 33 (.slice (some ⟨gg,0,none⟩) ((solo l).length+1) cap1) ((solo l).length+1) (scells (solo l) vs++(icells x sc sd sx nil))):=by rw [←hu];exact own_last HOW10.o rfl rfl
   clear hu hth hgq
   refine hK.out _ _ trivial ?_
   clear hK K
   simp only [Act.put,List.setIfInBounds_toArray,List.set_cons_zero,List.set_cons_succ,Reg.Kept]
   refine Reg.G.step (j:=13) (m:= []) [] rfl (by kernel_rfl) rfl (by kernel_rfl) (fun K hK=>?_)
   have ko:y11.cell? ⟨q,32,none⟩=some (.slice A5 (solo l).length cap5):=jq0 HI11.o 32
   have fo:y11.frozen? ⟨q,32,none⟩=false:=jq1 HI11.o 32
   go_simp
   obtain ⟨y12,hu⟩: ∃u,y11.setCell ⟨q,32,none⟩ (.slice (some ⟨gg,0,none⟩) ((solo l).length+1) cap1)=u:=⟨_,rfl⟩
   rw [hu]
   have hgq:=HGQ.o
   have HFW12:Hid (Fr (fun k=>k=q∨(Value.slice A5 (solo l).length cap5).ownBlock=some k) y9 y12):=by rw [←hu];exact HFW11.o.setCell (p:=⟨q,32,none⟩) (.inl (.inl rfl)) _
   have HA12:Hid (After2 E b q sx2 w0 y12):=by rw [←hu];exact HA11.o.set (by omega) _
   have HI12:Hid (IB q fl nil nil sn (.slice (some ⟨gg,0,none⟩) ((solo l).length+1) cap1) y12):=by rw [←hu];exact IB.set_si HI11.o _
   have HOW12:Hid (y12.ownsRow w0.heap.size 57 33 (.slice (some ⟨gg,0,none⟩) ((solo l).length+1) cap1) ((solo l).length+1) (scells (solo l) vs++(icells x sc sd sx nil))):=by rw [←hu];exact own_frb HOW11.o ((Fr.refl (fun k=>k=q) _).setb 32 _) (fun k hk e=>by have:gg=k:=(by simpa [Value.ownBlock] using hk);omega)
   clear hu hgq ko fo
   refine hK.out _ _ trivial ?_
   clear hK K
   simp only [Act.put,List.setIfInBounds_toArray,List.set_cons_zero,List.set_cons_succ,Reg.Kept]
   refine Reg.G.done (by kernel_rfl) ?_
   exact hQ _ _ _ _ _ _ _ _ _ _ _ _ _ ⟨_,_,HI12.o,by rw [kx0];exact RowSv.snocF (x:=⟨x,[]⟩) HR9.o HFW12.o (fun k hk e=>e.elim (fun e=>by omega) id) HO9.o (RowI.nil _ _) (fun g hg=>by cases hg) HOW12.o HAT.o,HA12.o⟩
  ·have ko:y10.cell? ⟨q,32,none⟩=some (.slice A5 (solo l).length cap5):=jq0 HI10.o 32
   have fo:y10.frozen? ⟨q,32,none⟩=false:=jq1 HI10.o 32
   go_simp
   obtain ⟨y13,hu⟩: ∃u,y10.setCell ⟨q,32,none⟩ (.slice (some ⟨gg,0,none⟩) ((solo l).length+1) cap1)=u:=⟨_,rfl⟩
   rw [hu]
   have hgq:=HGQ.o
   have HFW13:Hid (Fr (fun k=>k=q∨(Value.slice A5 (solo l).length cap5).ownBlock=some k) y9 y13):=by rw [←hu];exact HFW.o.setCell (p:=⟨q,32,none⟩) (.inl (.inl rfl)) _
   have HA13:Hid (After2 E b q sx2 w0 y13):=by rw [←hu];exact HA10.o.set (by omega) _
   have HI13:Hid (IB q fl nil nil sn (.slice (some ⟨gg,0,none⟩) ((solo l).length+1) cap1) y13):=by rw [←hu];exact IB.set_si HI10.o _
   have HOW13:Hid (y13.ownsRow w0.heap.size 57 33 (.slice (some ⟨gg,0,none⟩) ((solo l).length+1) cap1) ((solo l).length+1) (scells (solo l) vs++(icells flat0 nil nil nil nil))):=by rw [←hu];exact own_frb HOW10.o ((Fr.refl (fun k=>k=q) _).setb 32 _) (fun k hk e=>by have:gg=k:=(by simpa [Value.ownBlock] using hk);omega)
   clear hu hgq ko fo
   refine hK.out _ _ trivial ?_
   clear hK K
   simp only [Act.put,List.setIfInBounds_toArray,List.set_cons_zero,List.set_cons_succ,Reg.Kept]
   refine Reg.G.step (j:=10) (m:= []) [] rfl (by kernel_rfl) rfl (by kernel_rfl) (fun K hK=>?_)
   have hth:y13.there gg ((solo l).length*33) (icells x sc sd sx nil).toArray.size:=by rw [info_size'];exact own_there HOW13.o (by omega)
   refine wp_store_mid 57 _ _ rfl gg ((solo l).length*33) (icells x sc sd sx nil).toArray rfl rfl hth (jq6 _ _ _ _ _) (by rw [←Array.all_toList];exact List.all_eq_true.2 (jv4 x sc sd sx nil HO9.o.forms.1 HO9.o.forms.2.1 HO9.o.forms.2.2 ⟨_,_,_,rfl⟩)) ?_
   obtain ⟨y14,hu⟩: ∃u,y13.setCells gg ((solo l).length*33) (icells x sc sd sx nil).toArray.toList=u:=⟨_,rfl⟩
   rw [hu]
   have hgq:=HGQ.o
   have HFW14:Hid (Fr (fun k=>k=q∨(Value.slice A5 (solo l).length cap5).ownBlock=some k) y9 y14):=by rw [←hu];exact kq4 (HAT.o.imp .inr id) _ _ _ HFW13.o
   have HA14:Hid (After2 E b q sx2 w0 y14):=by rw [←hu];exact HA13.o.fr (kq4 (S:=fun k=>w0.heap.size≤k) (.inl hgq) _ _ _ (Fr.refl _ _)) (by omega)
   have HI14:Hid (IB q fl nil nil sn (.slice (some ⟨gg,0,none⟩) ((solo l).length+1) cap1) y14):=by rw [←hu];exact jk0 _ _ _ HI13.o (by omega)
   have HOW14:Hid (y14.ownsRow w0.heap.size 57 33 (.slice (some ⟨gg,0,none⟩) ((solo l).length+1) cap1) ((solo l).length+1) (scells (solo l) vs++(icells x sc sd sx nil))):=by rw [←hu];exact own_last HOW13.o rfl rfl
   clear hu hth hgq
   refine hK.out _ _ trivial ?_
   clear hK K
   simp only [Act.put,List.setIfInBounds_toArray,List.set_cons_zero,List.set_cons_succ,Reg.Kept]
   refine Reg.G.done (by kernel_rfl) ?_
   exact hQ _ _ _ _ _ _ _ _ _ _ _ _ _ ⟨_,_,HI14.o,by rw [kx0];exact RowSv.snocF (x:=⟨x,[]⟩) HR9.o HFW14.o (fun k hk e=>e.elim (fun e=>by omega) id) HO9.o (RowI.nil _ _) (fun g hg=>by cases hg) HOW14.o HAT.o,HA14.o⟩
end Go.Proofs.YtfaflipphkoiiaaDoor.Rp
namespace Go.Proofs.YtfaflipphkoiiaaDoor.Rp
open Pr
open Go.RowKit Mem
open Lx (Tok)
theorem rtmplMore_err (f:Nat) (s:St) (h:s.err≠0):rtmplMore f s=([],s):=by
 cases f with
 |zero=>rfl
 |succ f=>simp [rtmplMore,Pr.bnd,good,h,Pr.ret]
theorem rtmplMore_succ (f:Nat) (s:St) (h:s.err=0):rtmplMore (f+1) s=if (acc [125] s).1 then ([],(acc [125] s).2) else ((rinner (acc [125] s).2).1::(rtmplMore f (rinner (acc [125] s).2).2).1,(rtmplMore f (rinner (acc [125] s).2).2).2):=by
 have hb:(s.err==0)=true:=by simp [h]
 show Pr.bnd good (fun g=>if g then Pr.bnd (acc [125]) fun b=>if b then Pr.ret [] else Pr.bnd rinner fun x=>Pr.bnd (rtmplMore f) fun l=>Pr.ret (x::l) else Pr.ret []) s=_
 unfold Pr.bnd good
 simp only [hb,if_true]
 cases (acc [125] s).1<;>rfl
theorem rinner_prog (s:St) (hw:Wts s):(rinner s).2.rest.length≤s.rest.length∧((rinner s).2.err=0→(rinner s).2.rest.length<s.rest.length):=by
 rw [(Ag.rinner s hw).1]
 exact inner_prog s
def TRel (E:Env) (b q:Nat) (fl:Flat) (sn:Value) (w0:World) (R:List Flat) (sr:St) (wr:World):Prop:=
 ∃(l:List Flat) (s':St) (f:Nat),TB E b q fl sn w0 l s' wr∧(s'.err=0→s'.rest.length<f)∧(solo l).length+s'.rest.length+(if s'.err=0 then 1 else 0)≤5002∧(l++(rtmplMore f s').1,(rtmplMore f s').2)=(R,sr)
theorem template_any (E:Env) (b:Nat) (s:St) (W:World) (h:PW E b s W) (q:Nat) (n:Bytes) (p:Nat) (hI:IB q {flat0 with kind:=13,name:=n,pos:=p} nil nil nil nil W) (hq:b<q) (L:List Bytes) (s2:St) (u3:Unit) (s3:St) (R:List Flat) (sr:St) (h2:rnames s=(L,s2)) (h3:expect [[123]] s2=(u3,s3)) (h4:long rtmplMore s3=(R,sr)):
  Calls Tryd.prog 51 #[.pointer (some ⟨b,0,none⟩),.pointer (some ⟨q,0,none⟩)] W fun e w'=>e= .returned (.tuple #[])∧(∃sn vs si,IB q {flat0 with kind:=13,name:=n,pos:=p,names:=L} nil nil sn si w'∧w'.ownsRow W.heap.size 9 1 sn L.length (L.map sv)∧RowSv W.heap.size (solo R) vs si w')∧After2 E b q sr W w':=by
 have hbl:=h.2.2.1
 have hqW:=jq7 hI
 have HP:=hdd h;have HI:=hdd hI;have H2:=hdd h2;have H3:=hdd h3;have H4:=hdd h4
 clear h hI h2 h3 h4
 go_enter Tryd.func51,Tryd.ntmps51
 go_wp2_with fail
 refine (names_any E b s _ HP.o).mono ?_
 rw [H2.o]
 rintro e w1 ⟨⟨sn,rfl,hO⟩,hA⟩
 obtain ⟨An,cn,rfl⟩:=own_form hO
 have HI1:Hid (IB q {flat0 with kind:=13,name:=n,pos:=p} nil nil nil nil w1):=hA.2.blk HI.o (by omega)
 have HN1:=hdd hO
 have HA1:Hid (After2 E b q s2 W w1):=(After2.start HP.o).trans hA
 clear hA hO HI
 have kn:w1.cell? ⟨q,31,none⟩=some nil:=jq0 HI1.o 31
 unfold nil at kn
 have fn:w1.frozen? ⟨q,31,none⟩=false:=jq1 HI1.o 31
 go_wp2_with fail
 refine (jx3 E b s2 [123] _ (HA1.o.set (i:=31) (by omega) (.slice An L.length cn)).1 (nd_of (by decide))).mono ?_
 rw [H3.o]
 rintro e w3 ⟨rfl,hA⟩
 have HI3:Hid (IB q {flat0 with kind:=13,name:=n,pos:=p,names:=L} nil nil (.slice An L.length cn) nil w3):=hA.2.blk (IB.set_sn HI1.o (.slice An L.length cn)) (by omega)
 have HN3:=hdd (jx5 (jv0 (c:=q) (i:=31) HN1.o (fun g hg=>by have:=(own_lt HN1.o g hg).1;omega) (.slice An L.length cn)) hA.2 (fun k hk _ e=>by omega))
 have HA3:=hdd ((HA1.o.set (i:=31) (by omega) (.slice An L.length cn)).trans hA)
 clear hA HA1 HI1 HN1 kn fn
 have hq3:=jq7 HI3.o
 have hln:=HA3.o.1.len
 go_wp2_with fail
 go_loopw [] (fun wr=>TRel E b q {flat0 with kind:=13,name:=n,pos:=p,names:=L} (.slice An L.length cn) w3 R sr wr) (fun wr=>2*lft E b wr+okn b wr)
 case atStart=>exact ⟨[],s3,s3.rest.length+1,⟨[],nil,HI3.o,RowSv.nil _ _,After2.start HA3.o.1⟩,fun _=>by omega,by simp [solo];split<;>omega,by have:=H4.o;unfold long at this;rw [this];rfl⟩
 case round=>
  obtain ⟨l,s',f,hT,hf,hb,hX⟩:=hrel
  obtain ⟨vs,si,hI,hRS,hA⟩:=id hT
  have hlf:=hA.1.lft
  have hok:=hA.1.okn
  obtain ⟨nn,_,_,_,_,_,_,c4,_⟩:=hA.1.cells
  have HT:=hdd hT;have HA:=hdd hA;have HI:=hdd hI;have HRS:=hdd hRS
  clear hT hA hI hRS
  by_cases he:s'.err=0
  ·obtain ⟨f,rfl⟩: ∃g,f=g+1:=⟨f-1,by have:=hf he;omega⟩
   rw [rtmplMore_succ f s' he] at hX
   rw [he] at c4
   cases hK:(acc [125] s').1 with
   |true=>
    rw [hK] at hX
    simp only [if_true] at hX
    have hex:(acc [125] s').2=sr:=by injection hX
    have hRl:l=R:=by have:=congrArg Prod.fst hX;simpa using this
    subst hRl
    have HEX:=hdd hex;have HK:=hdd hK
    clear hex hK hX he hlf hok hf hb
    go_wp2_with fail
    refine (jx8 E b s' [125] _ HA.o.1 (nd_of (by decide))).mono ?_
    rw [HK.o,HEX.o]
    rintro e w9 ⟨rfl,hA9⟩
    clear c4
    have HA9:=hdd (HA.o.trans hA9)
    have HI9:=hdd (hA9.2.blk HI.o (by omega))
    have hsz:=HA.o.2.size
    have HRS9:=hdd (HRS.o.fr hA9.2 (fun k hk _ e=>by omega))
    have HN9:=hdd (jx5 HN3.o HA9.o.2 (fun k hk _ e=>by omega))
    clear hA9 HA HI HRS
    go_wp2_with fail
    first|go_end0|refine bodyPost_ret (results_none rfl _ _ _) rfl ?_
    exact ⟨rfl,⟨_,vs,si,HI9.o,HN9.o,HRS9.o.carry fun e z v n xs ho=>own_base ho HA3.o.2.size⟩,HA3.o.trans2 HA9.o⟩
   |false=>
    have hac:(acc [125] s').2=s':=acc_same (by rw [←Pr.acc_isT];exact hK)
    have hX3:(l++(rinner s').1::(rtmplMore f (rinner s').2).1,(rtmplMore f (rinner s').2).2)=(R,sr):=by rw [hK,hac] at hX;exact hX
    have hpr:=rinner_prog s' HA.o.1.wts
    obtain ⟨x,sx,hx⟩: ∃x sx,rinner s'=(x,sx):=⟨_,_,rfl⟩
    rw [hx] at hX3 hpr
    have hf2:=hf he
    rw [if_pos he] at hb hok
    have HX:=hdd hX3;have HXX:=hdd hx;have HK:=hdd hK;have HAC:=hdd hac;have HLF:=hdd hlf;have HOK:=hdd hok
    clear hX3 hx hK hX he hlf hok hf hac
    go_wp2_with fail
    refine (jx8 E b s' [125] _ HA.o.1 (nd_of (by decide))).mono ?_
    rw [HK.o,HAC.o]
    rintro e w8 ⟨rfl,hA8⟩
    clear c4
    have hsz:=HA.o.2.size
    have HT8:Hid (TB E b q {flat0 with kind:=13,name:=n,pos:=p,names:=L} (.slice An L.length cn) w3 l s' w8):=⟨vs,si,hA8.2.blk HI.o (by omega),HRS.o.fr hA8.2 (fun k hk _ e=>by omega),HA.o.trans hA8⟩
    clear hA8 HA HI HRS HT
    go_upto_region 3 with fail
    refine templ_r3 (by kernel_rfl) HT8.o HXX.o (by omega) (by omega) (by omega) (fun _ _ _ _ _ h=>h) ?_
    intro v21 v22 v23 v24 v25 v26 v27 v28 v29 v30 v31 v32 wx hTB
    obtain ⟨vs6,si6,hI6,hRS6,hA6⟩:=id hTB
    have hlf6:=hA6.1.lft
    have hok6:=hA6.1.okn
    have HTB:=hdd hTB
    clear hI6 hRS6 hA6 hTB
    have HN:Hid (TRel E b q {flat0 with kind:=13,name:=n,pos:=p,names:=L} (.slice An L.length cn) w3 R sr wx):=by
     refine ⟨l++ [x],sx,f,HTB.o,fun he=>by have:=hpr.2 he;omega,?_,by rw [←HX.o];simp⟩
     rw [kx0,List.length_append]
     simp only [List.length_cons,List.length_nil]
     by_cases he:sx.err=0
     ·rw [if_pos he];have:=hpr.2 he;omega
     ·rw [if_neg he];have:=hpr.1;omega
    have HM:Hid (2*lft E b wx+okn b wx<2*lft E b wr+okn b wr):=by
     show _<_
     rw [hlf6,hok6,HLF.o,HOK.o]
     by_cases he:sx.err=0
     ·rw [if_pos he];have:=hpr.2 he;omega
     ·rw [if_neg he];have:=hpr.1;omega
    clear hlf6 hok6
    go_wp2_with fail
    go_roundw
    case rel=>exact HN.o
    case measure=>exact HM.o
  ·rw [rtmplMore_err f s' he] at hX
   have hex:s'=sr:=by injection hX
   have hRl:l=R:=by have:=congrArg Prod.fst hX;simpa using this
   subst hRl
   subst hex
   have hb0:((s'.err:Int)==0)=false:=by rw [beq_eq_false_iff_ne];omega
   clear hX he hlf hok hf hb
   have hsz:=HA.o.2.size
   have HN9:=hdd (jx5 HN3.o HA.o.2 (fun k hk _ e=>by omega))
   go_wp2_with fail
   first|go_end0|refine bodyPost_ret (results_none rfl _ _ _) rfl ?_
   exact ⟨rfl,⟨_,vs,si,HI.o,HN9.o,HRS.o.carry fun e z v n xs ho=>own_base ho HA3.o.2.size⟩,HA3.o.trans2 HA.o⟩
end Go.Proofs.YtfaflipphkoiiaaDoor.Rp
namespace Go.Proofs.YtfaflipphkoiiaaDoor.Rp
open Go.RowKit Mem Pr
open Lx (Tok isDigit isLetter isSym)
def ItemEnd (E:Env) (b:Nat) (x:Pr.Item) (s':St) (W:World) (e:Ending) (w':World):Prop:=
 (∃sc sd sn si,e= .returned (.agg (icells x.flat sc sd sn si).toArray)∧FlatOK W.heap.size x.flat sc sd sn w'∧RowI W.heap.size x.inner si w')∧After E b s' W w'
theorem item_p13 (E:Env) (b:Nat) (s:St) (W:World) (h:PW E b s W) (i:Bool) (hk:rkind i s rwords=13) (t:Tok) (r:List Tok) (hr:s.rest=t::r) (he:s.err=0) (hit:s.items≠600) (n:Bytes) (s1:St) (L:List Bytes) (s2:St) (u3:Unit) (s3:St) (R:List Flat) (sr:St) (h1:name ⟨r,s.items+1,0⟩=(n,s1)) (h2:rnames s1=(L,s2)) (h3:expect [[123]] s2=(u3,s3)) (h4:long rtmplMore s3=(R,sr)):
  Calls Tryd.prog 28 #[.pointer (some ⟨b,0,none⟩),.bool i] W fun e w'=>ItemEnd E b ⟨{flat0 with kind:=13,pos:=t.pos,name:=n,names:=L},R⟩ sr W e w':=by
 have H1:=hdd h1;clear h1
 have H2:=hdd h2;clear h2
 have H3:=hdd h3;clear h3
 have H4:=hdd h4;clear h4
 have hbl:=h.2.2.1
 have hln:=h.1
 have HP:=hdd h;have HK:=hdd hk;have HR0:=hdd hr;have HE0:=hdd he
 have d6: ¬(600:Int)≤(s.items:Int):=by have:=h.2.1;omega
 clear h hk hr he hit
 go_enter Tryd.func28,Tryd.ntmps28
 go_wp2_with fail
 refine (jv1 E b s _ ((After.start HP.o).alloc _).1 i).mono ?_
 rw [HK.o]
 rintro e w1 ⟨rfl,hA⟩
 have HR1:Hid (IB W.heap.size flat0 nil nil nil nil w1):=hA.2.blk (jq5 (by simp)) (by omega)
 have HA1:=hdd (((After.start HP.o).alloc _).trans hA)
 have hs1:W.heap.size<w1.heap.size:=jq7 HR1.o
 clear hA
 obtain ⟨g,HG⟩: ∃q,Hid (w1.heap.size=q):=⟨_,rfl⟩
 obtain ⟨w2,hw2⟩: ∃u,w1.alloc (.cells (icells {flat0 with kind:=13} nil nil nil nil).toArray 57)=u:=⟨_,rfl⟩
 have HI2:Hid (IB g {flat0 with kind:=13} nil nil nil nil w2):=by rw [←hw2];exact jq5 HG.o.symm
 have HA2:Hid (After E b s W w2):=by rw [←hw2];exact HA1.o.alloc _
 have HR2:Hid (IB W.heap.size flat0 nil nil nil nil w2):=by rw [←hw2];exact jq9 HR1.o _
 have hgW:W.heap.size<g:=by have:=HG.o;omega
 have HW2:=hdd hw2
 clear hw2 HA1 HR1
 go_upto_region 2 with (first|(refine wpList_build rfl 57 _ rfl #[(0,.int .i64 ((13:Nat):Int))] ?_ _ (jz6 13 _) ?_;(simp [Act.eval]))|(refine jq4 rfl 57 _ _ rfl rfl (icells {flat0 with kind:=13} nil nil nil nil).toArray rfl (jq6 _ _ _ _ _) (ic1 ..) (by rfl) ?_))
 rw [HW2.o,HG.o]
 clear HW2
 have k0:w2.cell? ⟨g,0,none⟩=some (.int .i64 13):=jq0 HI2.o 0
 go_upto_region 5 with fail
 clear k0
 obtain ⟨_,hit,hb2,hpt,n0,h1',h2',hblk⟩:=id HA2.o.1
 have hd:t::r=E.ts.drop n0:=by rw [←HR0.o];exact h2'
 obtain ⟨hn,hti,hr2⟩:=jz2 hd
 obtain ⟨gt,ot,hAd,hgt,hct⟩:=hpt.2 (by omega)
 obtain ⟨_,_,_,q3⟩:=hct n0 hn
 rw [hti] at q3
 have c0:w2.cell? ⟨b,0,none⟩=some (.slice (some ⟨gt,ot,none⟩) E.ts.length E.cap):=by rw [←hAd];exact jq0 hblk 0
 have c1:w2.cell? ⟨b,1,none⟩=some (.int .i64 (n0:Int)):=jq0 hblk 1
 have x2:w2.cell? ⟨g,2,none⟩=some (.int .i64 0):=jq0 HI2.o 2
 have y2:w2.frozen? ⟨g,2,none⟩=false:=jq1 HI2.o 2
 have i1:(0:Int)≤(n0:Int):=Int.natCast_nonneg _
 have i2:(n0:Int)<(E.ts.length:Int):=by omega
 have hbg:b≠g:=by omega
 have htg:gt≠g:=by omega
 have g0:(w2.setCell ⟨g,2,none⟩ (.int .i64 (t.pos:Int))).drew.cell? ⟨b,0,none⟩=some (.slice (some ⟨gt,ot,none⟩) E.ts.length E.cap):=by
  show (w2.setCell ⟨g,2,none⟩ (.int .i64 (t.pos:Int))).cell? ⟨b,0,none⟩=_
  exact (jz0 hbg).trans c0
 have g1:(w2.setCell ⟨g,2,none⟩ (.int .i64 (t.pos:Int))).drew.cell? ⟨b,1,none⟩=some (.int .i64 (n0:Int)):=by
  show (w2.setCell ⟨g,2,none⟩ (.int .i64 (t.pos:Int))).cell? ⟨b,1,none⟩=_
  exact (jz0 hbg).trans c1
 have g3:(w2.setCell ⟨g,2,none⟩ (.int .i64 (t.pos:Int))).drew.cell? ⟨gt,ot+n0*4+3,none⟩=some (.int .i64 (t.pos:Int)):=by
  show (w2.setCell ⟨g,2,none⟩ (.int .i64 (t.pos:Int))).cell? ⟨gt,ot+n0*4+3,none⟩=_
  exact (jz0 htg).trans q3
 have HBLK:=hdd hblk;have HPT:=hdd hpt;have HRR:=hdd hr2
 clear hblk hpt hr2 hd hti hct h2' hAd
 go_region_held3 (fun w'=>w'.cell? ⟨b,0,none⟩=some (.slice (some ⟨gt,ot,none⟩) E.ts.length E.cap)∧w'.cell? ⟨b,1,none⟩=some (.int .i64 (n0:Int))∧w'.cell? ⟨gt,ot+n0*4+3,none⟩=some (.int .i64 (t.pos:Int))) (first|go_keep|(go_split_ands;refine ⟨?_,?_,?_⟩<;>first|assumption|exact c0|exact c1|exact q3|exact g0|exact g1|exact g3)) (fail)
 clear c0 c1 x2 y2 g0 g1 g3 q3
 obtain ⟨w3,hw3⟩: ∃u,(w2.setCell ⟨g,2,none⟩ (.int .i64 (t.pos:Int))).drewN 1=u:=⟨_,rfl⟩
 have HI3:Hid (IB g {flat0 with kind:=13,pos:=t.pos} nil nil nil nil w3):=by rw [←hw3];exact jx2 (IB.set_pos HI2.o t.pos) 1
 have HR3:Hid (IB W.heap.size flat0 nil nil nil nil w3):=by rw [←hw3];exact jx2 (jq2 HR2.o (by omega) _) 1
 have HB3:Hid (w3.heap[b]?=some (.cells (pcells E n0 s) 71 (0,0))):=by rw [←hw3];exact jx2 (jq2 HBLK.o (by omega) _) 1
 have HF3:Hid (Fr (fun k=>k=b) W w3):=by rw [←hw3];exact (HA2.o.2.setCell (p:=⟨g,2,none⟩) (.inr (by show W.heap.size≤g;omega)) _).drewN 1
 have HW3:Hid ((w2.setCell ⟨g,2,none⟩ (.int .i64 (t.pos:Int))).drew=w3):=hw3
 clear hw3 HI2 HR2 HBLK
 rw [HW3.o]
 clear HW3
 have c1:w3.cell? ⟨b,1,none⟩=some (.int .i64 (n0:Int)):=jq0 HB3.o 1
 have f1:w3.frozen? ⟨b,1,none⟩=false:=jq1 HB3.o 1
 have c3:w3.cell? ⟨b,3,none⟩=some (.int .i64 (s.items:Int)):=jq0 HB3.o 3
 have f3:w3.frozen? ⟨b,3,none⟩=false:=jq1 HB3.o 3
 have w6:IntKind.i64.wrap ((s.items:Int)+1)=(s.items:Int)+1:=IntWalk.i64_in _ (by omega)
 have w7:IntKind.i64.wrap ((n0:Int)+1)=(n0:Int)+1:=IntWalk.i64_in _ (by omega)
 go_upto_region 12 with fail
 obtain ⟨w4,hw4⟩: ∃u,(w3.setCell ⟨b,3,none⟩ (.int .i64 ((s.items:Int)+1))).setCell ⟨b,1,none⟩ (.int .i64 ((n0:Int)+1))=u:=⟨_,rfl⟩
 have HF4:Hid (Fr (fun k=>k=b) W w4):=by rw [←hw4];exact (HF3.o.setb 3 _).setb 1 _
 have HI:Hid (IB g {flat0 with kind:=13,pos:=t.pos} nil nil nil nil w4):=by rw [←hw4];exact jq2 (jq2 HI3.o (by omega) _) (by omega) _
 have HR:Hid (IB W.heap.size flat0 nil nil nil nil w4):=by rw [←hw4];exact jq2 (jq2 HR3.o (by omega) _) (by omega) _
 have HA:Hid (After E b ⟨r,s.items+1,0⟩ W w4):=by
  have hbk:=jv8 HB3.o HE0.o
  rw [hw4,HR0.o] at hbk
  exact ⟨mod_PW HP.o HF4.o (by show s.items+1≤600;omega) (by omega) HRR.o hbk,HF4.o⟩
 rw [hw4]
 clear hw4 HF4 HI3 HR3 HB3 HF3 HA2 c1 f1 c3 f3 w6 w7 HPT HRR
 have k_0:w4.cell? ⟨g,0,none⟩=some (.int .i64 13):=jq0 HI.o 0
 go_wp2_with fail
 refine (name_any E b ⟨r,s.items+1,0⟩ _ HA.o.1).mono ?_
 rw [H1.o]
 rintro e w5 ⟨rfl,hA⟩
 have GI:Hid (IB g {flat0 with kind:=13,pos:=t.pos} nil nil nil nil w5):=hA.2.blk HI.o (by omega)
 have GR:Hid (IB W.heap.size flat0 nil nil nil nil w5):=hA.2.blk HR.o (by omega)
 have GA:=hdd (HA.o.trans hA)
 clear hA k_0 HI HR HA
 have k_0:w5.cell? ⟨g,0,none⟩=some (.int .i64 13):=jq0 GI.o 0
 have k_1:w5.cell? ⟨g,1,none⟩=some (.string ⟨#[]⟩):=jq0 GI.o 1
 have f_1:w5.frozen? ⟨g,1,none⟩=false:=jq1 GI.o 1
 have HI6:Hid (IB g {flat0 with kind:=13,pos:=t.pos,name:=n} nil nil nil nil (w5.setCell ⟨g,1,none⟩ (.string ⟨n.toArray⟩))):=IB.set_name GI.o n
 have hgs:=jq7 HI6.o
 go_wp2_with fail
 refine (template_any E b s1 _ (GA.o.set (i:=1) (by omega) (by omega) (.string ⟨n.toArray⟩)).1 g n t.pos HI6.o (by omega) L s2 u3 s3 R sr H2.o H3.o H4.o).mono ?_
 rintro e w6 ⟨rfl,⟨sn,vs,si,hI,hO,hRS⟩,hA⟩
 obtain ⟨An,cn,rfl⟩:=own_form hO
 obtain ⟨Ai,ci,rfl⟩:=hRS.form
 have HI:Hid (IB g {flat0 with kind:=13,pos:=t.pos,name:=n,names:=L} nil nil (.slice An L.length cn) (.slice Ai (solo R).length ci) w6):=hI
 have HR:Hid (IB W.heap.size flat0 nil nil nil nil w6):=hA.2.blk (jq2 GR.o (by omega) _) (by omega)
 have HA:=hdd ((GA.o.set (i:=1) (by omega) (by omega) (.string ⟨n.toArray⟩)).ptr hA (by omega))
 have HN:=hdd hO
 have HRS:=hdd hRS
 clear hI hO hRS hA k_0 k_1 f_1 HI6 GI GR GA
 obtain ⟨w99,hw99,hA99,hl99,ho99⟩:=item_end (g:=flat0) (a1:=nil) (a2:=nil) (a3:=nil) (a4:=nil) HR.o HA.o hbl {flat0 with kind:=13,pos:=t.pos,name:=n,names:=L} nil nil (.slice An L.length cn) (.slice Ai (solo R).length ci)
 have R99:=hdd (own_base (ho99 _ _ _ _ _ _ (by omega) HN.o) (by omega:W.heap.size≤_))
 have RI99:Hid (RowI W.heap.size R (.slice Ai (solo R).length ci) w99):=HRS.o.inner.carry fun e z v n xs ho=>own_base (ho99 _ _ _ _ _ _ (by omega) ho) (by omega)
 have HW99:=hdd hw99;clear hw99
 have HA99:=hdd hA99;clear hA99
 have HL99:=hdd hl99;clear hl99 ho99
 have k_0:w6.cell? ⟨g,0,none⟩=some (.int .i64 13):=jq0 HI.o 0
 go_wp2_with (first|(refine wpList_load_mid rfl 57 _ rfl g 0 rfl (icells {flat0 with kind:=13,pos:=t.pos,name:=n,names:=L} nil nil (.slice An L.length cn) (.slice Ai (solo R).length ci)) _ HI.o.range Tryd.underlying57 rfl (jx6 _ _ _ _ _) ?_)|(refine wpList_store_mid rfl 57 _ _ rfl W.heap.size 0 (icells {flat0 with kind:=13,pos:=t.pos,name:=n,names:=L} nil nil (.slice An L.length cn) (.slice Ai (solo R).length ci)).toArray rfl rfl (HR.o.there' _ _ _ _ _) (jq6 _ _ _ _ _) (ic1 ..) ?_;rw [HW99.o]))
 exact bodyPost_ret (v:= .agg (icells {flat0 with kind:=13,pos:=t.pos,name:=n,names:=L} nil nil (.slice An L.length cn) (.slice Ai (solo R).length ci)).toArray) (jq8 Tryd.results28 rfl HL99.o) rfl ⟨⟨nil,nil,_,_,rfl,⟨World.ownsRow_nil _ _ _ _,World.ownsRow_nil _ _ _ _,R99.o⟩,RI99.o⟩,HA99.o⟩
theorem ritem_flat {s:St} (h:rkind false s rwords≠13):ritem s=(⟨(rflat false s).1,[]⟩,(rflat false s).2):=by
 unfold ritem rflat
 cases hr:rstart false s with
 |mk o s'=>
  cases o with
  |none=>rfl
  |some kp=>
   have hk:kp.1≠13:=by
    unfold rstart at hr
    split at hr
    ·injection hr with hr _;cases hr
    ·split at hr
     ·injection hr with hr _;cases hr
     ·injection hr with hr _;injection hr with hr;subst hr;exact h
   simp only [if_neg hk]
   rfl
theorem item_any (E:Env) (b:Nat) (s:St) (W:World) (h:PW E b s W):
  Calls Tryd.prog 28 #[.pointer (some ⟨b,0,none⟩),.bool false] W fun e w'=>ItemEnd E b (ritem s).1 (ritem s).2 W e w':=by
 by_cases h13:rkind false s rwords=13
 ·obtain ⟨he,t,r,hr⟩:=rkind_ne false s rwords (by rw [h13];decide)
  by_cases hit:s.items=600
  ·have e:ritem s=(⟨{flat0 with kind:=13,pos:=t.pos},[]⟩,{s with err:=3}):=by
    unfold ritem
    rw [rstart_lim h13 (by decide) hit]
    show ((⟨rlost false s,[]⟩:Pr.Item),({s with err:=3}:St))=_
    rw [rlost_lim h13 (by decide) hr]
   rw [e]
   exact (item_lim E b s W h false 13 h13 (by decide) t r hr he hit).mono fun e w' ⟨⟨sc,sd,sn,he,hF⟩,hA⟩=>⟨⟨sc,sd,sn,nil,he,hF,RowI.nil _ _⟩,hA⟩
  ·obtain ⟨n,s1,h1⟩: ∃n s1,name ⟨r,s.items+1,0⟩=(n,s1):=⟨_,_,rfl⟩
   obtain ⟨L,s2,h2⟩: ∃n s2,rnames s1=(n,s2):=⟨_,_,rfl⟩
   obtain ⟨u3,s3,h3⟩: ∃n s9,expect [[123]] s2=(n,s9):=⟨_,_,rfl⟩
   obtain ⟨R,sr,h4⟩: ∃R sr,long rtmplMore s3=(R,sr):=⟨_,_,rfl⟩
   have e1:rtemplate ⟨r,s.items+1,0⟩=(⟨{flat0 with kind:=13,name:=n,names:=L},R⟩,sr):=by
    unfold rtemplate
    rw [jq3 h1,jq3 h2,jx1 h3,jq3 h4]
    rfl
   have e:ritem s=(⟨{flat0 with kind:=13,pos:=t.pos,name:=n,names:=L},R⟩,sr):=by
    unfold ritem
    rw [rstart_some h13 (by decide) hr hit]
    show (if 13=13 then Pr.bnd rtemplate (fun x=>Pr.ret (⟨{x.flat with pos:=t.pos},x.inner⟩:Pr.Item)) ⟨r,s.items+1,0⟩ else _)=_
    rw [if_pos rfl,jq3 e1]
    rfl
   rw [e]
   exact item_p13 E b s W h false h13 t r hr he hit n s1 L s2 u3 s3 R sr h1 h2 h3 h4
 ·rw [ritem_flat h13]
  exact (kz3 E b s W h false h13).mono fun e w' ⟨⟨sc,sd,sn,he,hF⟩,hA⟩=>⟨⟨sc,sd,sn,nil,he,hF,RowI.nil _ _⟩,hA⟩
end Go.Proofs.YtfaflipphkoiiaaDoor.Rp
