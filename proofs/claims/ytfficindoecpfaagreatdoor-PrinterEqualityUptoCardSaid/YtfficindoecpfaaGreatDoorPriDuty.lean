/-
  The printer's dates and duties.
-/
import Derived.Test.YtfficindoecpfaaGreatDoorPriItems
set_option maxHeartbeats 64000000
set_option maxRecDepth 100000
set_option linter.unusedVariables false
set_option linter.unusedSimpArgs false
namespace Go.Proofs.YtfficindoecpfaaGreatDoor.Pt
open Go.RowKit Mem Vw
open Ic (RowB)
def dcells (c:Rs.Civil):Array Value:= #[.int .i64 c.y,.int .i64 c.m,.int .i64 c.d]
theorem date_le {c:Rs.Civil}:LeT (date c) 5:=LeT.cat jv2 (LeT.cat (LeT.ok [_]) (LeT.cat jv2 (LeT.cat (LeT.ok [_]) jv2)))
theorem date_any {G:Nat} {P:Nat→Prop} {b:Nat} {k:Value} {s:St} {w:World} (hw:WR G P b k s w) (c:Rs.Civil) (hn:s.n+20≤lim):
  Calls Tryz.prog 40 #[.pointer (some ⟨b,0,none⟩),.agg (dcells c)] w (Out P (date c) (fun ts w'=>WR G P b k (s.app ts) w') w):=by
 obtain ⟨w0,hw0⟩: ∃u,w.alloc (.cells (dcells c) 23)=u:=⟨_,rfl⟩
 obtain ⟨i,HII⟩: ∃q,Hid (w.heap.size=q):=⟨_,rfl⟩
 have hfa:Fr (fun _=>False) w w0:=by rw [←hw0];exact (Fr.refl _ w).alloc _
 have HB0:Hid (w0.heap[i]?=some (.cells (dcells c) 23 (0,0))):=by rw [←hw0];exact jq2 HII.o.symm
 have HW0:Hid (WQ P i G b k s w0):=hw.ext hfa (by rw [HII.o];exact Nat.le_refl _) (jq7 HB0.o)
 have HI:Hid (¬P i):=fun e=>by have h1:=hw.lt i e;have h2:=HII.o;omega
 have HG:=hdd hw.low
 have HF0:Hid (FN P w w0):=hfa.mono (fun _ _ e=>e.elim)
 have hw0:w.alloc (.cells #[.int .i64 c.y,.int .i64 c.m,.int .i64 c.d] 23)=w0:=hw0
 clear hw hfa
 show Calls Tryz.prog _ #[.pointer (some ⟨b,0,none⟩),.agg #[.int .i64 c.y,.int .i64 c.m,.int .i64 c.d]] w _
 go_enter Tryz.func40,Tryz.ntmps40
 go_upto_region 1 with fail
 rw [HII.o]
 clear hw0
 go_wp2_with fail
 refine (number_any HW0.o HI.o HG.o (c.y) HB0.o rfl (by omega)).mono ?_
 rintro e w1 (⟨ht,rfl,hf⟩|⟨ts1,ht,rfl,⟨h1,hb⟩,hf⟩)
 ·have ht:number (c.y)=none:=(by exact ht)
  exact ⟨rfl,.inl ⟨(by show date c=none;unfold date;rw [ht]<;>rfl),rfl,HF0.o.trans hf⟩⟩
 have ht:number (c.y)=some ts1:=(by exact ht)
 have hl1:ts1.length≤1:=jv2 _ ht
 have HT1:=hdd ht
 obtain ⟨s1,HS1⟩: ∃z,Hid (s.app ts1=z):=⟨_,rfl⟩
 have n1:s1.n≤s.n+2*1:=by rw [←HS1.o,St.app_n];have:=hl1;omega
 have HW1:Hid (WQ P i G b k s1 w1):=by rw [←HS1.o];exact h1
 have HB1:Hid (w1.heap[i]?=some (.cells (dcells {c with y:=0}) 23 (0,0))):=hb
 have HF1:Hid (FN P w w1):=HF0.o.trans hf
 clear hb ht
 clear h1 hf
 go_wp2_with fail
 refine (jq3 HW1.o [[45]] _ rfl _ _ (by decide) (by show s1.n+2*1≤lim;omega)).mono ?_
 rintro e w2 ⟨rfl,h1,hf⟩
 have hl2:([[45]]:List Rs.Bytes).length≤1:=by decide
 obtain ⟨s2,HS2⟩: ∃z,Hid (s1.app [[45]]=z):=⟨_,rfl⟩
 have n2:s2.n≤s1.n+2*1:=by rw [←HS2.o,St.app_n];have:=hl2;omega
 have HW2:Hid (WQ P i G b k s2 w2):=by rw [←HS2.o];exact h1
 have HB2:Hid (w2.heap[i]?=some (.cells (dcells {c with y:=0}) 23 (0,0))):=hf.blk HB1.o (fun e=>e (.inr rfl))
 have HF2:Hid (FN P w w2):=HF1.o.trans (hf.mono (fun q _ e e2=>e (.inl e2)))
 clear h1 hf
 go_wp2_with fail
 refine (number_any HW2.o HI.o HG.o (c.m) HB2.o rfl (by omega)).mono ?_
 rintro e w3 (⟨ht,rfl,hf⟩|⟨ts3,ht,rfl,⟨h1,hb⟩,hf⟩)
 ·have ht:number (c.m)=none:=(by exact ht)
  exact ⟨rfl,.inl ⟨(by show date c=none;unfold date;rw [HT1.o,ht]<;>rfl),rfl,HF2.o.trans hf⟩⟩
 have ht:number (c.m)=some ts3:=(by exact ht)
 have hl3:ts3.length≤1:=jv2 _ ht
 have HT3:=hdd ht
 obtain ⟨s3,HS3⟩: ∃z,Hid (s2.app ts3=z):=⟨_,rfl⟩
 have n3:s3.n≤s2.n+2*1:=by rw [←HS3.o,St.app_n];have:=hl3;omega
 have HW3:Hid (WQ P i G b k s3 w3):=by rw [←HS3.o];exact h1
 have HB3:Hid (w3.heap[i]?=some (.cells (dcells {{c with y:=0} with m:=0}) 23 (0,0))):=hb
 have HF3:Hid (FN P w w3):=HF2.o.trans hf
 clear hb ht
 clear h1 hf
 go_wp2_with fail
 refine (jq3 HW3.o [[45]] _ rfl _ _ (by decide) (by show s3.n+2*1≤lim;omega)).mono ?_
 rintro e w4 ⟨rfl,h1,hf⟩
 have hl4:([[45]]:List Rs.Bytes).length≤1:=by decide
 obtain ⟨s4,HS4⟩: ∃z,Hid (s3.app [[45]]=z):=⟨_,rfl⟩
 have n4:s4.n≤s3.n+2*1:=by rw [←HS4.o,St.app_n];have:=hl4;omega
 have HW4:Hid (WQ P i G b k s4 w4):=by rw [←HS4.o];exact h1
 have HB4:Hid (w4.heap[i]?=some (.cells (dcells {{c with y:=0} with m:=0}) 23 (0,0))):=hf.blk HB3.o (fun e=>e (.inr rfl))
 have HF4:Hid (FN P w w4):=HF3.o.trans (hf.mono (fun q _ e e2=>e (.inl e2)))
 clear h1 hf
 go_wp2_with fail
 refine (number_any HW4.o HI.o HG.o (c.d) HB4.o rfl (by omega)).mono ?_
 rintro e w5 (⟨ht,rfl,hf⟩|⟨ts5,ht,rfl,⟨h1,hb⟩,hf⟩)
 ·have ht:number (c.d)=none:=(by exact ht)
  exact ⟨rfl,.inl ⟨(by show date c=none;unfold date;rw [HT1.o,HT3.o,ht]<;>rfl),rfl,HF4.o.trans hf⟩⟩
 have ht:number (c.d)=some ts5:=(by exact ht)
 have hl5:ts5.length≤1:=jv2 _ ht
 have HT5:=hdd ht
 obtain ⟨s5,HS5⟩: ∃z,Hid (s4.app ts5=z):=⟨_,rfl⟩
 have n5:s5.n≤s4.n+2*1:=by rw [←HS5.o,St.app_n];have:=hl5;omega
 have HW5:Hid (WQ P i G b k s5 w5):=by rw [←HS5.o];exact h1
 have HB5:Hid (w5.heap[i]?=some (.cells (dcells {{{c with y:=0} with m:=0} with d:=0}) 23 (0,0))):=hb
 have HF5:Hid (FN P w w5):=HF4.o.trans hf
 clear hb ht
 clear h1 hf
 go_wp2_with fail
 first|go_end0|refine bodyPost_ret (results_none rfl _ _ _) rfl ?_
 exact .inr ⟨ts1++([[45]]++(ts3++([[45]]++(ts5)))),(by show date c=some _;unfold date;rw [HT1.o,HT3.o,HT5.o]<;>(first|rfl|simp [cat,ok,natureT,semi])),rfl,(show WQ P i G b k (s.app (ts1++([[45]]++(ts3++([[45]]++(ts5)))))) w5 by rw [←St.app_app,HS1.o,←St.app_app,HS2.o,←St.app_app,HS3.o,←St.app_app,HS4.o,HS5.o];exact HW5.o).mono (fun q hq=> .inl hq) HG.o,HF5.o⟩
theorem neq_span (x:Rs.Span) (hx:x≠span0) (W:World):(binOp .neq 41 (.agg #[.int .i64 x.days,.bool x.bus,.string ⟨x.name.toArray⟩]) (.agg #[.int .i64 0,.bool false,.string ⟨#[]⟩])).run Tryz.prog W= .ok (.bool true) W:=by
 obtain ⟨a,b,n⟩:=x
 dsimp only
 by_cases ha:a=0
 ·subst ha
  cases b with
  |true=>go_simp
  |false=>
   have hn:n≠ []:=fun e=>hx (by rw [e];rfl)
   have hq:(n== [])=false:=by simpa using hn
   go_simp
 ·have hq:(a==0)=false:=beq_eq_false_iff_ne.2 ha
  go_simp
def dutyLeft (h:Rs.Item):Rs.Item:=consLeft (circLeft {h with name:= [],of_:= [],act:= [],times:=0,within:=spanLeft h.within,grace:=if h.grace=span0 then h.grace else spanLeft h.grace})
theorem duty_any {G:Nat} {P:Nat→Prop} {b:Nat} {k:Value} {s:St} {w:World} {i:Nat} {h:Rs.Item} {c d n l:Value} (hw:WQ P i G b k s w) (hi: ¬P i) (hG: ∀q,q<G→P q) (hb:w.heap[i]?=some (.cells (Rs.icells h c d n l).toArray 49 (0,0))) (ho:Ok h) (hn:s.n+(6*h.conds.length+300)≤lim) (hr:RowB P w c 2 (h.conds.map Rs.namedc)):
  Calls Tryz.prog 33 #[.pointer (some ⟨b,0,none⟩),.pointer (some ⟨i,0,none⟩)] w (Out P (duty h) (fun ts w'=>WQ P i G b k (s.app ts) w'∧w'.heap[i]?=some (.cells ((Rs.icells (dutyLeft h:Rs.Item) (.slice none 0 0) d n l).toArray) 49 (0,0))) w):=by
 have HW0:=hdd hw;have HI:=hdd hi;have HG:=hdd hG;have HB0:=hdd hb;have HO:=hdd ho
 have HF0:Hid (FN P w w):=Fr.refl _ _
 clear hw hi hG hb ho
 have HR:=hdd hr
 clear hr
 go_enter Tryz.func33,Tryz.ntmps33
 go_wp2_with fail
 refine (jj1 HW0.o HI.o HG.o HB0.o (by cases HO.o;constructor<;>first|assumption|(apply jx8;assumption)|exact Nat.zero_le _) (by omega) [100,117,116,121] (by decide)).mono ?_
 rintro e w1 (⟨ht,rfl,hf⟩|⟨ts1,ht,rfl,⟨h1,hb⟩,hf⟩)
 ·have ht:begin_ [100,117,116,121] h=none:=(by exact ht)
  exact ⟨rfl,.inl ⟨(by show duty h=none;unfold duty;rw [ht]<;>rfl),rfl,HF0.o.trans hf⟩⟩
 have ht:begin_ [100,117,116,121] h=some ts1:=(by exact ht)
 have hl1:ts1.length≤2:=jz8 _ ht
 have HT1:=hdd ht
 obtain ⟨s1,HS1⟩: ∃z,Hid (s.app ts1=z):=⟨_,rfl⟩
 have n1:s1.n≤s.n+2*2:=by rw [←HS1.o,St.app_n];have:=hl1;omega
 have HW1:Hid (WQ P i G b k s1 w1):=by rw [←HS1.o];exact h1
 have HB1:Hid (w1.heap[i]?=some (OI {h with name:= []} c d n l)):=hb
 have HF1:Hid (FN P w w1):=HF0.o.trans hf
 clear hb ht
 clear h1 hf
 go_wp2_with fail
 refine (bearer_any HW1.o HI.o HG.o HB1.o (by cases HO.o;constructor<;>first|assumption|(apply jx8;assumption)|exact Nat.zero_le _) (by omega)).mono ?_
 rintro e w2 (⟨ht,rfl,hf⟩|⟨ts2,ht,rfl,⟨h1,hb⟩,hf⟩)
 ·have ht:bearer h=none:=(by exact ht)
  exact ⟨rfl,.inl ⟨(by show duty h=none;unfold duty;rw [HT1.o,ht]<;>rfl),rfl,HF1.o.trans hf⟩⟩
 have ht:bearer h=some ts2:=(by exact ht)
 have hl2:ts2.length≤4:=kz4 _ ht
 have HT2:=hdd ht
 obtain ⟨s2,HS2⟩: ∃z,Hid (s1.app ts2=z):=⟨_,rfl⟩
 have n2:s2.n≤s1.n+2*4:=by rw [←HS2.o,St.app_n];have:=hl2;omega
 have HW2:Hid (WQ P i G b k s2 w2):=by rw [←HS2.o];exact h1
 have HB2:Hid (w2.heap[i]?=some (OI {{h with name:= []} with of_:= [],act:= []} c d n l)):=hb
 have HF2:Hid (FN P w w2):=HF1.o.trans hf
 clear hb ht
 clear h1 hf
 by_cases hq3:h.times=1
 ·have hc3:=hdd hq3
  have cb6:w2.cell? ⟨i,6,none⟩=some (.int .i64 1):=(jq0 HB2.o 6).trans (by show some (Value.int .i64 h.times)=_;rw [hq3])
  clear hq3
  have c4:w2.cell? ⟨i,6,none⟩=some (.int .i64 h.times):=jq0 HB2.o _
  have f4:w2.frozen? ⟨i,6,none⟩=false:=jq1 HB2.o _
  obtain ⟨w4,hw4⟩: ∃u,w2.setCell ⟨i,6,none⟩ (.int .i64 0)=u:=⟨_,rfl⟩
  have hf:Fr (fun q=>q=i) w2 w4:=by rw [←hw4];exact (Fr.refl (fun q=>q=i) w2).setb 6 _
  have HB4:Hid (w4.heap[i]?=some (OI {{{h with name:= []} with of_:= [],act:= []} with times:=0} c d n l)):=by rw [←hw4];exact jq9 HB2.o 6 _
  have HW4:Hid (WQ P i G b k s2 w4):=HW2.o.fr hf (fun q e=>⟨.inr e,by have e:q=i:=e;subst e;exact Nat.le_of_not_lt fun h=>HI.o (HG.o _ h)⟩)
  have HF4:Hid (FN P w w4):=HF2.o.trans (hf.mono (fun q _ e e2=>by have e:q=i:=e;subst e;exact HI.o e2))
  clear hf
  have s4_:True:=trivial
  obtain ⟨s4,HS4⟩: ∃z,Hid (s2.app []=z):=⟨_,rfl⟩
  have n4:s4.n≤s2.n:=by rw [←HS4.o];exact Nat.le_refl _
  have HW4:Hid (WQ P i G b k s4 w4):=by rw [←HS4.o];exact HW4.o
  go_wp2_with fail
  refine (jq3 HW4.o [[119,105,116,104,105,110]] _ rfl _ _ (by decide) (by show s4.n+2*1≤lim;omega)).mono ?_
  rintro e w5 ⟨rfl,h1,hf⟩
  clear cb6 c4 f4 hw4 s4_
  have hl5:([[119,105,116,104,105,110]]:List Rs.Bytes).length≤1:=by decide
  obtain ⟨s5,HS5⟩: ∃z,Hid (s4.app [[119,105,116,104,105,110]]=z):=⟨_,rfl⟩
  have n5:s5.n≤s4.n+2*1:=by rw [←HS5.o,St.app_n];have:=hl5;omega
  have HW5:Hid (WQ P i G b k s5 w5):=by rw [←HS5.o];exact h1
  have HB5:Hid (w5.heap[i]?=some (OI {{{h with name:= []} with of_:= [],act:= []} with times:=0} c d n l)):=hf.blk HB4.o (fun e=>e (.inr rfl))
  have HF5:Hid (FN P w w5):=HF4.o.trans (hf.mono (fun q _ e e2=>e (.inl e2)))
  clear h1 hf
  go_wp2_with fail
  refine (spanW_any HW5.o HI.o HG.o HB5.o (by cases HO.o;constructor<;>first|assumption|(apply jx8;assumption)|exact Nat.zero_le _) (by omega)).mono ?_
  rintro e w6 (⟨ht,rfl,hf⟩|⟨ts6,ht,rfl,⟨h1,hb⟩,hf⟩)
  ·have ht:span h.within=none:=(by exact ht)
   exact ⟨rfl,.inl ⟨(by show duty h=none;unfold duty;rw [HT1.o,HT2.o,(show times h.times=ok [] from if_pos hc3.out),ht]<;>rfl),rfl,HF5.o.trans hf⟩⟩
  have ht:span h.within=some ts6:=(by exact ht)
  have hl6:ts6.length≤4:=jk8 _ ht
  have HT6:=hdd ht
  obtain ⟨s6,HS6⟩: ∃z,Hid (s5.app ts6=z):=⟨_,rfl⟩
  have n6:s6.n≤s5.n+2*4:=by rw [←HS6.o,St.app_n];have:=hl6;omega
  have HW6:Hid (WQ P i G b k s6 w6):=by rw [←HS6.o];exact h1
  have HB6:Hid (w6.heap[i]?=some (OI {{{{h with name:= []} with of_:= [],act:= []} with times:=0} with within:=spanLeft h.within} c d n l)):=hb
  have HF6:Hid (FN P w w6):=HF5.o.trans hf
  clear hb ht
  clear h1 hf
  by_cases hgr:h.grace=span0
  ·have HGR:=hdd hgr
   clear hgr
   go_upto_region 9 with fail
   obtain ⟨gz,HGZ⟩: ∃q,Hid (w6.heap.size=q):=⟨_,rfl⟩
   obtain ⟨u,hu⟩: ∃u,w6.alloc (.cells #[.int .i64 0,.bool false,.string ⟨#[]⟩] 41)=u:=⟨_,rfl⟩
   have HFU:Hid (Fr (fun _=>False) w6 u):=by rw [←hu];exact (Fr.refl _ w6).alloc _
   have HZU:Hid (u.heap[gz]?=some (.cells #[.int .i64 0,.bool false,.string ⟨#[]⟩] 41 (0,0))):=by rw [←hu];exact jq2 HGZ.o.symm
   have HBU:Hid (u.heap[i]?=some (OI {{{{h with name:= []} with of_:= [],act:= []} with times:=0} with within:=spanLeft h.within} c d n l)):=HFU.o.blk HB6.o (fun e=>e)
   have HWU:Hid (WQ P i G b k s6 u):=HW6.o.keep HFU.o
   have HFV:Hid (FN P w u):=HF6.o.trans (HFU.o.mono (fun _ _ e=>e.elim))
   have z0:u.cell? ⟨gz,0,none⟩=some (.int .i64 0):=jq0 HZU.o 0
   have z1:u.cell? ⟨gz,1,none⟩=some (.bool false):=jq0 HZU.o 1
   have z2:u.cell? ⟨gz,2,none⟩=some (.string ⟨#[]⟩):=jq0 HZU.o 2
   have g0:u.cell? ⟨i,10,none⟩=some (.int .i64 0):=(jq0 HBU.o 10).trans (by show some (Value.int .i64 h.grace.days)=_;rw [HGR.o];rfl)
   have g1:u.cell? ⟨i,11,none⟩=some (.bool false):=(jq0 HBU.o 11).trans (by show some (Value.bool h.grace.bus)=_;rw [HGR.o];rfl)
   have g2:u.cell? ⟨i,12,none⟩=some (.string ⟨#[]⟩):=(jq0 HBU.o 12).trans (by show some (sv h.grace.name)=_;rw [HGR.o];rfl)
   rw [hu,HGZ.o]
   clear hu
   go_quiet (fail)
   clear z0 z1 z2 g0 g1 g2
   obtain ⟨w7,hd⟩: ∃v,u.drewN nq=v:=⟨_,rfl⟩
   have hfd:Fr (fun _=>False) u w7:=by rw [←hd];exact (Fr.refl _ u).drewN nq
   have HB7:Hid (w7.heap[i]?=some (OI {{{{h with name:= []} with of_:= [],act:= []} with times:=0} with within:=spanLeft h.within} c d n l)):=hfd.blk HBU.o (fun e=>e)
   have HF7:Hid (FN P w w7):=HFV.o.trans (hfd.mono (fun _ _ e=>e.elim))
   have HWV:Hid (WQ P i G b k s6 w7):=HWU.o.keep hfd
   obtain ⟨s7,HS7⟩: ∃z,Hid (s6.app []=z):=⟨_,rfl⟩
   have n7:s7.n≤s6.n:=by rw [←HS7.o];exact Nat.le_refl _
   have HW7:Hid (WQ P i G b k s7 w7):=by rw [←HS7.o];exact HWV.o
   rw [hd]
   clear hfd hd HWU HFV HBU HZU HFU HGZ HWV
   go_wp2_with fail
   refine (circ_any HW7.o HI.o HG.o HB7.o (by cases HO.o;constructor<;>first|assumption|(apply jx8;assumption)|exact Nat.zero_le _) (HR.o.fr HF7.o (fun q hq e=>e hq)) (by show _+6*h.conds.length+40≤lim;omega)).mono ?_
   rintro e w9 (⟨ht,rfl,hf⟩|⟨ts9,ht,rfl,⟨h1,hb⟩,hf⟩)
   ·have ht:circ h=none:=(by exact ht)
    exact ⟨rfl,.inl ⟨(by show duty h=none;unfold duty;rw [HT1.o,HT2.o,(show times h.times=ok [] from if_pos hc3.out),HT6.o,(show grace h.grace=ok [] from if_pos HGR.o),ht]<;>rfl),rfl,HF7.o.trans hf⟩⟩
   have ht:circ h=some ts9:=(by exact ht)
   have hl9:ts9.length≤(3*h.conds.length+5):=kq9 _ ht
   have HT9:=hdd ht
   obtain ⟨s9,HS9⟩: ∃z,Hid (s7.app ts9=z):=⟨_,rfl⟩
   have n9:s9.n≤s7.n+2*(3*h.conds.length+5):=by rw [←HS9.o,St.app_n];have:=hl9;omega
   have HW9:Hid (WQ P i G b k s9 w9):=by rw [←HS9.o];exact h1
   have HB9:Hid (w9.heap[i]?=some (.cells ((Rs.icells (circLeft ({{{{h with name:= []} with of_:= [],act:= []} with times:=0} with within:=spanLeft h.within}):Rs.Item) (.slice none 0 0) d n l).toArray) 49 (0,0))):=hb
   have HF9:Hid (FN P w w9):=HF7.o.trans hf
   clear hb ht
   clear h1 hf
   go_wp2_with fail
   refine (cons_any HW9.o HI.o HG.o HB9.o (Ok.circ (by cases HO.o;constructor<;>first|assumption|(apply jx8;assumption)|exact Nat.zero_le _)) (by omega)).mono ?_
   rintro e w10 (⟨ht,rfl,hf⟩|⟨ts10,ht,rfl,⟨h1,hb⟩,hf⟩)
   ·have ht:cons h=none:=(by rw [jj6] at ht;exact ht)
    exact ⟨rfl,.inl ⟨(by show duty h=none;unfold duty;rw [HT1.o,HT2.o,(show times h.times=ok [] from if_pos hc3.out),HT6.o,(show grace h.grace=ok [] from if_pos HGR.o),HT9.o,ht]<;>rfl),rfl,HF9.o.trans hf⟩⟩
   have ht:cons h=some ts10:=(by rw [jj6] at ht;exact ht)
   have hl10:ts10.length≤8:=cons_le _ ht
   have HT10:=hdd ht
   obtain ⟨s10,HS10⟩: ∃z,Hid (s9.app ts10=z):=⟨_,rfl⟩
   have n10:s10.n≤s9.n+2*8:=by rw [←HS10.o,St.app_n];have:=hl10;omega
   have HW10:Hid (WQ P i G b k s10 w10):=by rw [←HS10.o];exact h1
   have HB10:Hid (w10.heap[i]?=some (.cells ((Rs.icells (consLeft (circLeft ({{{{h with name:= []} with of_:= [],act:= []} with times:=0} with within:=spanLeft h.within})):Rs.Item) (.slice none 0 0) d n l).toArray) 49 (0,0))):=hb
   have HF10:Hid (FN P w w10):=HF9.o.trans hf
   clear hb ht
   clear h1 hf
   go_wp2_with fail
   refine (jq3 HW10.o [[59]] _ rfl _ _ (by decide) (by show s10.n+2*1≤lim;omega)).mono ?_
   rintro e w11 ⟨rfl,h1,hf⟩
   have hl11:([[59]]:List Rs.Bytes).length≤1:=by decide
   obtain ⟨s11,HS11⟩: ∃z,Hid (s10.app [[59]]=z):=⟨_,rfl⟩
   have n11:s11.n≤s10.n+2*1:=by rw [←HS11.o,St.app_n];have:=hl11;omega
   have HW11:Hid (WQ P i G b k s11 w11):=by rw [←HS11.o];exact h1
   have HB11:Hid (w11.heap[i]?=some (.cells ((Rs.icells (consLeft (circLeft ({{{{h with name:= []} with of_:= [],act:= []} with times:=0} with within:=spanLeft h.within})):Rs.Item) (.slice none 0 0) d n l).toArray) 49 (0,0))):=hf.blk HB10.o (fun e=>e (.inr rfl))
   have HF11:Hid (FN P w w11):=HF10.o.trans (hf.mono (fun q _ e e2=>e (.inl e2)))
   clear h1 hf
   go_wp2_with fail
   first|go_end0|refine bodyPost_ret (results_none rfl _ _ _) rfl ?_
   exact .inr ⟨ts1++(ts2++([]++([[119,105,116,104,105,110]]++(ts6++([]++(ts9++(ts10++([[59]])))))))),(by show duty h=some _;unfold duty;rw [HT1.o,HT2.o,(show times h.times=ok [] from if_pos hc3.out),HT6.o,(show grace h.grace=ok [] from if_pos HGR.o),HT9.o,HT10.o]<;>(first|rfl|simp [cat,ok,natureT,semi])),rfl,⟨(by rw [←St.app_app,HS1.o,←St.app_app,HS2.o,←St.app_app,HS4.o,←St.app_app,HS5.o,←St.app_app,HS6.o,←St.app_app,HS7.o,←St.app_app,HS9.o,←St.app_app,HS10.o,HS11.o];exact HW11.o),(by unfold dutyLeft;rw [if_pos HGR.o];exact HB11.o)⟩,HF11.o⟩
  have HGR:=hdd hgr
  clear hgr
  go_upto_region 9 with fail
  obtain ⟨gz,HGZ⟩: ∃q,Hid (w6.heap.size=q):=⟨_,rfl⟩
  obtain ⟨u,hu⟩: ∃u,w6.alloc (.cells #[.int .i64 0,.bool false,.string ⟨#[]⟩] 41)=u:=⟨_,rfl⟩
  have HFU:Hid (Fr (fun _=>False) w6 u):=by rw [←hu];exact (Fr.refl _ w6).alloc _
  have HZU:Hid (u.heap[gz]?=some (.cells #[.int .i64 0,.bool false,.string ⟨#[]⟩] 41 (0,0))):=by rw [←hu];exact jq2 HGZ.o.symm
  have HBU:Hid (u.heap[i]?=some (OI {{{{h with name:= []} with of_:= [],act:= []} with times:=0} with within:=spanLeft h.within} c d n l)):=HFU.o.blk HB6.o (fun e=>e)
  have HWU:Hid (WQ P i G b k s6 u):=HW6.o.keep HFU.o
  have HFV:Hid (FN P w u):=HF6.o.trans (HFU.o.mono (fun _ _ e=>e.elim))
  have z0:u.cell? ⟨gz,0,none⟩=some (.int .i64 0):=jq0 HZU.o 0
  have z1:u.cell? ⟨gz,1,none⟩=some (.bool false):=jq0 HZU.o 1
  have z2:u.cell? ⟨gz,2,none⟩=some (.string ⟨#[]⟩):=jq0 HZU.o 2
  have g0:u.cell? ⟨i,10,none⟩=some (.int .i64 h.grace.days):=jq0 HBU.o 10
  have g1:u.cell? ⟨i,11,none⟩=some (.bool h.grace.bus):=jq0 HBU.o 11
  have g2:u.cell? ⟨i,12,none⟩=some (.string ⟨h.grace.name.toArray⟩):=jq0 HBU.o 12
  rw [hu,HGZ.o]
  clear hu
  have hne:=neq_span h.grace HGR.o
  go_quiet (fail)
  clear z0 z1 z2 g0 g1 g2 hne
  obtain ⟨w8,hd⟩: ∃v,u.drewN nq=v:=⟨_,rfl⟩
  have hfd:Fr (fun _=>False) u w8:=by rw [←hd];exact (Fr.refl _ u).drewN nq
  have HB8:Hid (w8.heap[i]?=some (OI {{{{h with name:= []} with of_:= [],act:= []} with times:=0} with within:=spanLeft h.within} c d n l)):=hfd.blk HBU.o (fun e=>e)
  have HF8:Hid (FN P w w8):=HFV.o.trans (hfd.mono (fun _ _ e=>e.elim))
  have HWV:Hid (WQ P i G b k s6 w8):=HWU.o.keep hfd
  obtain ⟨s8,HS8⟩: ∃z,Hid (s6.app []=z):=⟨_,rfl⟩
  have n8:s8.n≤s6.n:=by rw [←HS8.o];exact Nat.le_refl _
  have HW8:Hid (WQ P i G b k s8 w8):=by rw [←HS8.o];exact HWV.o
  rw [hd]
  clear hfd hd HWU HFV HBU HZU HFU HGZ HWV
  go_wp2_with fail
  refine (jq3 HW8.o [[103,114,97,99,101]] _ rfl _ _ (by decide) (by show s8.n+2*1≤lim;omega)).mono ?_
  rintro e w12 ⟨rfl,h1,hf⟩
  have hl12:([[103,114,97,99,101]]:List Rs.Bytes).length≤1:=by decide
  obtain ⟨s12,HS12⟩: ∃z,Hid (s8.app [[103,114,97,99,101]]=z):=⟨_,rfl⟩
  have n12:s12.n≤s8.n+2*1:=by rw [←HS12.o,St.app_n];have:=hl12;omega
  have HW12:Hid (WQ P i G b k s12 w12):=by rw [←HS12.o];exact h1
  have HB12:Hid (w12.heap[i]?=some (OI {{{{h with name:= []} with of_:= [],act:= []} with times:=0} with within:=spanLeft h.within} c d n l)):=hf.blk HB8.o (fun e=>e (.inr rfl))
  have HF12:Hid (FN P w w12):=HF8.o.trans (hf.mono (fun q _ e e2=>e (.inl e2)))
  clear h1 hf
  go_wp2_with fail
  refine (spanG_any HW12.o HI.o HG.o HB12.o (by cases HO.o;constructor<;>first|assumption|(apply jx8;assumption)|exact Nat.zero_le _) (by omega)).mono ?_
  rintro e w13 (⟨ht,rfl,hf⟩|⟨ts13,ht,rfl,⟨h1,hb⟩,hf⟩)
  ·have ht:span h.grace=none:=(by exact ht)
   exact ⟨rfl,.inl ⟨(by show duty h=none;unfold duty;rw [HT1.o,HT2.o,(show times h.times=ok [] from if_pos hc3.out),HT6.o,(show grace h.grace=cat (ok [[103,114,97,99,101]]) (span h.grace) from if_neg HGR.o),ht]<;>rfl),rfl,HF12.o.trans hf⟩⟩
  have ht:span h.grace=some ts13:=(by exact ht)
  have hl13:ts13.length≤4:=jk8 _ ht
  have HT13:=hdd ht
  obtain ⟨s13,HS13⟩: ∃z,Hid (s12.app ts13=z):=⟨_,rfl⟩
  have n13:s13.n≤s12.n+2*4:=by rw [←HS13.o,St.app_n];have:=hl13;omega
  have HW13:Hid (WQ P i G b k s13 w13):=by rw [←HS13.o];exact h1
  have HB13:Hid (w13.heap[i]?=some (OI {{{{{h with name:= []} with of_:= [],act:= []} with times:=0} with within:=spanLeft h.within} with grace:=spanLeft h.grace} c d n l)):=hb
  have HF13:Hid (FN P w w13):=HF12.o.trans hf
  clear hb ht
  clear h1 hf
  go_wp2_with fail
  refine (circ_any HW13.o HI.o HG.o HB13.o (by cases HO.o;constructor<;>first|assumption|(apply jx8;assumption)|exact Nat.zero_le _) (HR.o.fr HF13.o (fun q hq e=>e hq)) (by show _+6*h.conds.length+40≤lim;omega)).mono ?_
  rintro e w14 (⟨ht,rfl,hf⟩|⟨ts14,ht,rfl,⟨h1,hb⟩,hf⟩)
  ·have ht:circ h=none:=(by exact ht)
   exact ⟨rfl,.inl ⟨(by show duty h=none;unfold duty;rw [HT1.o,HT2.o,(show times h.times=ok [] from if_pos hc3.out),HT6.o,(show grace h.grace=cat (ok [[103,114,97,99,101]]) (span h.grace) from if_neg HGR.o),HT13.o,ht]<;>rfl),rfl,HF13.o.trans hf⟩⟩
  have ht:circ h=some ts14:=(by exact ht)
  have hl14:ts14.length≤(3*h.conds.length+5):=kq9 _ ht
  have HT14:=hdd ht
  obtain ⟨s14,HS14⟩: ∃z,Hid (s13.app ts14=z):=⟨_,rfl⟩
  have n14:s14.n≤s13.n+2*(3*h.conds.length+5):=by rw [←HS14.o,St.app_n];have:=hl14;omega
  have HW14:Hid (WQ P i G b k s14 w14):=by rw [←HS14.o];exact h1
  have HB14:Hid (w14.heap[i]?=some (.cells ((Rs.icells (circLeft ({{{{{h with name:= []} with of_:= [],act:= []} with times:=0} with within:=spanLeft h.within} with grace:=spanLeft h.grace}):Rs.Item) (.slice none 0 0) d n l).toArray) 49 (0,0))):=hb
  have HF14:Hid (FN P w w14):=HF13.o.trans hf
  clear hb ht
  clear h1 hf
  go_wp2_with fail
  refine (cons_any HW14.o HI.o HG.o HB14.o (Ok.circ (by cases HO.o;constructor<;>first|assumption|(apply jx8;assumption)|exact Nat.zero_le _)) (by omega)).mono ?_
  rintro e w15 (⟨ht,rfl,hf⟩|⟨ts15,ht,rfl,⟨h1,hb⟩,hf⟩)
  ·have ht:cons h=none:=(by rw [jj6] at ht;exact ht)
   exact ⟨rfl,.inl ⟨(by show duty h=none;unfold duty;rw [HT1.o,HT2.o,(show times h.times=ok [] from if_pos hc3.out),HT6.o,(show grace h.grace=cat (ok [[103,114,97,99,101]]) (span h.grace) from if_neg HGR.o),HT13.o,HT14.o,ht]<;>rfl),rfl,HF14.o.trans hf⟩⟩
  have ht:cons h=some ts15:=(by rw [jj6] at ht;exact ht)
  have hl15:ts15.length≤8:=cons_le _ ht
  have HT15:=hdd ht
  obtain ⟨s15,HS15⟩: ∃z,Hid (s14.app ts15=z):=⟨_,rfl⟩
  have n15:s15.n≤s14.n+2*8:=by rw [←HS15.o,St.app_n];have:=hl15;omega
  have HW15:Hid (WQ P i G b k s15 w15):=by rw [←HS15.o];exact h1
  have HB15:Hid (w15.heap[i]?=some (.cells ((Rs.icells (consLeft (circLeft ({{{{{h with name:= []} with of_:= [],act:= []} with times:=0} with within:=spanLeft h.within} with grace:=spanLeft h.grace})):Rs.Item) (.slice none 0 0) d n l).toArray) 49 (0,0))):=hb
  have HF15:Hid (FN P w w15):=HF14.o.trans hf
  clear hb ht
  clear h1 hf
  go_wp2_with fail
  refine (jq3 HW15.o [[59]] _ rfl _ _ (by decide) (by show s15.n+2*1≤lim;omega)).mono ?_
  rintro e w16 ⟨rfl,h1,hf⟩
  have hl16:([[59]]:List Rs.Bytes).length≤1:=by decide
  obtain ⟨s16,HS16⟩: ∃z,Hid (s15.app [[59]]=z):=⟨_,rfl⟩
  have n16:s16.n≤s15.n+2*1:=by rw [←HS16.o,St.app_n];have:=hl16;omega
  have HW16:Hid (WQ P i G b k s16 w16):=by rw [←HS16.o];exact h1
  have HB16:Hid (w16.heap[i]?=some (.cells ((Rs.icells (consLeft (circLeft ({{{{{h with name:= []} with of_:= [],act:= []} with times:=0} with within:=spanLeft h.within} with grace:=spanLeft h.grace})):Rs.Item) (.slice none 0 0) d n l).toArray) 49 (0,0))):=hf.blk HB15.o (fun e=>e (.inr rfl))
  have HF16:Hid (FN P w w16):=HF15.o.trans (hf.mono (fun q _ e e2=>e (.inl e2)))
  clear h1 hf
  go_wp2_with fail
  first|go_end0|refine bodyPost_ret (results_none rfl _ _ _) rfl ?_
  exact .inr ⟨ts1++(ts2++([]++([[119,105,116,104,105,110]]++(ts6++([]++([[103,114,97,99,101]]++(ts13++(ts14++(ts15++([[59]])))))))))),(by show duty h=some _;unfold duty;rw [HT1.o,HT2.o,(show times h.times=ok [] from if_pos hc3.out),HT6.o,(show grace h.grace=cat (ok [[103,114,97,99,101]]) (span h.grace) from if_neg HGR.o),HT13.o,HT14.o,HT15.o]<;>(first|rfl|simp [cat,ok,natureT,semi])),rfl,⟨(by rw [←St.app_app,HS1.o,←St.app_app,HS2.o,←St.app_app,HS4.o,←St.app_app,HS5.o,←St.app_app,HS6.o,←St.app_app,HS8.o,←St.app_app,HS12.o,←St.app_app,HS13.o,←St.app_app,HS14.o,←St.app_app,HS15.o,HS16.o];exact HW16.o),(by unfold dutyLeft;rw [if_neg HGR.o];exact HB16.o)⟩,HF16.o⟩
 have hc3:=hdd hq3
 have cb6:w2.cell? ⟨i,6,none⟩=some (.int .i64 h.times):=jq0 HB2.o 6
 have qa6:(h.times==1)=false:=beq_eq_false_iff_ne.2 hq3
 have qb6:(h.times !=1)=true:=by simpa using hq3
 clear hq3
 go_wp2_with fail
 refine (number_any HW2.o HI.o HG.o (h.times) HB2.o rfl (by omega)).mono ?_
 rintro e w17 (⟨ht,rfl,hf⟩|⟨ts17,ht,rfl,⟨h1,hb⟩,hf⟩)
 ·have ht:number (h.times)=none:=(by exact ht)
  exact ⟨rfl,.inl ⟨(by show duty h=none;unfold duty;rw [HT1.o,HT2.o,(show times h.times=cat (number h.times) (ok [[116,105,109,101,115]]) from if_neg hc3.out),ht]<;>rfl),rfl,HF2.o.trans hf⟩⟩
 have ht:number (h.times)=some ts17:=(by exact ht)
 clear cb6 qa6 qb6
 have hl17:ts17.length≤1:=jv2 _ ht
 have HT17:=hdd ht
 obtain ⟨s17,HS17⟩: ∃z,Hid (s2.app ts17=z):=⟨_,rfl⟩
 have n17:s17.n≤s2.n+2*1:=by rw [←HS17.o,St.app_n];have:=hl17;omega
 have HW17:Hid (WQ P i G b k s17 w17):=by rw [←HS17.o];exact h1
 have HB17:Hid (w17.heap[i]?=some (OI {{{h with name:= []} with of_:= [],act:= []} with times:=0} c d n l)):=hb
 have HF17:Hid (FN P w w17):=HF2.o.trans hf
 clear hb ht
 clear h1 hf
 go_wp2_with fail
 refine (jq3 HW17.o [[116,105,109,101,115]] _ rfl _ _ (by decide) (by show s17.n+2*1≤lim;omega)).mono ?_
 rintro e w18 ⟨rfl,h1,hf⟩
 have hl18:([[116,105,109,101,115]]:List Rs.Bytes).length≤1:=by decide
 obtain ⟨s18,HS18⟩: ∃z,Hid (s17.app [[116,105,109,101,115]]=z):=⟨_,rfl⟩
 have n18:s18.n≤s17.n+2*1:=by rw [←HS18.o,St.app_n];have:=hl18;omega
 have HW18:Hid (WQ P i G b k s18 w18):=by rw [←HS18.o];exact h1
 have HB18:Hid (w18.heap[i]?=some (OI {{{h with name:= []} with of_:= [],act:= []} with times:=0} c d n l)):=hf.blk HB17.o (fun e=>e (.inr rfl))
 have HF18:Hid (FN P w w18):=HF17.o.trans (hf.mono (fun q _ e e2=>e (.inl e2)))
 clear h1 hf
 have c19:w18.cell? ⟨i,6,none⟩=some (.int .i64 0):=jq0 HB18.o _
 have f19:w18.frozen? ⟨i,6,none⟩=false:=jq1 HB18.o _
 obtain ⟨w19,hw19⟩: ∃u,w18.setCell ⟨i,6,none⟩ (.int .i64 0)=u:=⟨_,rfl⟩
 have hf:Fr (fun q=>q=i) w18 w19:=by rw [←hw19];exact (Fr.refl (fun q=>q=i) w18).setb 6 _
 have HB19:Hid (w19.heap[i]?=some (OI {{{{h with name:= []} with of_:= [],act:= []} with times:=0} with times:=0} c d n l)):=by rw [←hw19];exact jq9 HB18.o 6 _
 have HW19:Hid (WQ P i G b k s18 w19):=HW18.o.fr hf (fun q e=>⟨.inr e,by have e:q=i:=e;subst e;exact Nat.le_of_not_lt fun h=>HI.o (HG.o _ h)⟩)
 have HF19:Hid (FN P w w19):=HF18.o.trans (hf.mono (fun q _ e e2=>by have e:q=i:=e;subst e;exact HI.o e2))
 clear hf
 have s19_:True:=trivial
 obtain ⟨s19,HS19⟩: ∃z,Hid (s18.app []=z):=⟨_,rfl⟩
 have n19:s19.n≤s18.n:=by rw [←HS19.o];exact Nat.le_refl _
 have HW19:Hid (WQ P i G b k s19 w19):=by rw [←HS19.o];exact HW19.o
 go_wp2_with fail
 refine (jq3 HW19.o [[119,105,116,104,105,110]] _ rfl _ _ (by decide) (by show s19.n+2*1≤lim;omega)).mono ?_
 rintro e w20 ⟨rfl,h1,hf⟩
 clear c19 f19 hw19 s19_
 have hl20:([[119,105,116,104,105,110]]:List Rs.Bytes).length≤1:=by decide
 obtain ⟨s20,HS20⟩: ∃z,Hid (s19.app [[119,105,116,104,105,110]]=z):=⟨_,rfl⟩
 have n20:s20.n≤s19.n+2*1:=by rw [←HS20.o,St.app_n];have:=hl20;omega
 have HW20:Hid (WQ P i G b k s20 w20):=by rw [←HS20.o];exact h1
 have HB20:Hid (w20.heap[i]?=some (OI {{{{h with name:= []} with of_:= [],act:= []} with times:=0} with times:=0} c d n l)):=hf.blk HB19.o (fun e=>e (.inr rfl))
 have HF20:Hid (FN P w w20):=HF19.o.trans (hf.mono (fun q _ e e2=>e (.inl e2)))
 clear h1 hf
 go_wp2_with fail
 refine (spanW_any HW20.o HI.o HG.o HB20.o (by cases HO.o;constructor<;>first|assumption|(apply jx8;assumption)|exact Nat.zero_le _) (by omega)).mono ?_
 rintro e w21 (⟨ht,rfl,hf⟩|⟨ts21,ht,rfl,⟨h1,hb⟩,hf⟩)
 ·have ht:span h.within=none:=(by exact ht)
  exact ⟨rfl,.inl ⟨(by show duty h=none;unfold duty;rw [HT1.o,HT2.o,(show times h.times=cat (number h.times) (ok [[116,105,109,101,115]]) from if_neg hc3.out),HT17.o,ht]<;>rfl),rfl,HF20.o.trans hf⟩⟩
 have ht:span h.within=some ts21:=(by exact ht)
 have hl21:ts21.length≤4:=jk8 _ ht
 have HT21:=hdd ht
 obtain ⟨s21,HS21⟩: ∃z,Hid (s20.app ts21=z):=⟨_,rfl⟩
 have n21:s21.n≤s20.n+2*4:=by rw [←HS21.o,St.app_n];have:=hl21;omega
 have HW21:Hid (WQ P i G b k s21 w21):=by rw [←HS21.o];exact h1
 have HB21:Hid (w21.heap[i]?=some (OI {{{{{h with name:= []} with of_:= [],act:= []} with times:=0} with times:=0} with within:=spanLeft h.within} c d n l)):=hb
 have HF21:Hid (FN P w w21):=HF20.o.trans hf
 clear hb ht
 clear h1 hf
 by_cases hgr:h.grace=span0
 ·have HGR:=hdd hgr
  clear hgr
  go_upto_region 9 with fail
  obtain ⟨gz,HGZ⟩: ∃q,Hid (w21.heap.size=q):=⟨_,rfl⟩
  obtain ⟨u,hu⟩: ∃u,w21.alloc (.cells #[.int .i64 0,.bool false,.string ⟨#[]⟩] 41)=u:=⟨_,rfl⟩
  have HFU:Hid (Fr (fun _=>False) w21 u):=by rw [←hu];exact (Fr.refl _ w21).alloc _
  have HZU:Hid (u.heap[gz]?=some (.cells #[.int .i64 0,.bool false,.string ⟨#[]⟩] 41 (0,0))):=by rw [←hu];exact jq2 HGZ.o.symm
  have HBU:Hid (u.heap[i]?=some (OI {{{{{h with name:= []} with of_:= [],act:= []} with times:=0} with times:=0} with within:=spanLeft h.within} c d n l)):=HFU.o.blk HB21.o (fun e=>e)
  have HWU:Hid (WQ P i G b k s21 u):=HW21.o.keep HFU.o
  have HFV:Hid (FN P w u):=HF21.o.trans (HFU.o.mono (fun _ _ e=>e.elim))
  have z0:u.cell? ⟨gz,0,none⟩=some (.int .i64 0):=jq0 HZU.o 0
  have z1:u.cell? ⟨gz,1,none⟩=some (.bool false):=jq0 HZU.o 1
  have z2:u.cell? ⟨gz,2,none⟩=some (.string ⟨#[]⟩):=jq0 HZU.o 2
  have g0:u.cell? ⟨i,10,none⟩=some (.int .i64 0):=(jq0 HBU.o 10).trans (by show some (Value.int .i64 h.grace.days)=_;rw [HGR.o];rfl)
  have g1:u.cell? ⟨i,11,none⟩=some (.bool false):=(jq0 HBU.o 11).trans (by show some (Value.bool h.grace.bus)=_;rw [HGR.o];rfl)
  have g2:u.cell? ⟨i,12,none⟩=some (.string ⟨#[]⟩):=(jq0 HBU.o 12).trans (by show some (sv h.grace.name)=_;rw [HGR.o];rfl)
  rw [hu,HGZ.o]
  clear hu
  go_quiet (fail)
  clear z0 z1 z2 g0 g1 g2
  obtain ⟨w22,hd⟩: ∃v,u.drewN nq=v:=⟨_,rfl⟩
  have hfd:Fr (fun _=>False) u w22:=by rw [←hd];exact (Fr.refl _ u).drewN nq
  have HB22:Hid (w22.heap[i]?=some (OI {{{{{h with name:= []} with of_:= [],act:= []} with times:=0} with times:=0} with within:=spanLeft h.within} c d n l)):=hfd.blk HBU.o (fun e=>e)
  have HF22:Hid (FN P w w22):=HFV.o.trans (hfd.mono (fun _ _ e=>e.elim))
  have HWV:Hid (WQ P i G b k s21 w22):=HWU.o.keep hfd
  obtain ⟨s22,HS22⟩: ∃z,Hid (s21.app []=z):=⟨_,rfl⟩
  have n22:s22.n≤s21.n:=by rw [←HS22.o];exact Nat.le_refl _
  have HW22:Hid (WQ P i G b k s22 w22):=by rw [←HS22.o];exact HWV.o
  rw [hd]
  clear hfd hd HWU HFV HBU HZU HFU HGZ HWV
  go_wp2_with fail
  refine (circ_any HW22.o HI.o HG.o HB22.o (by cases HO.o;constructor<;>first|assumption|(apply jx8;assumption)|exact Nat.zero_le _) (HR.o.fr HF22.o (fun q hq e=>e hq)) (by show _+6*h.conds.length+40≤lim;omega)).mono ?_
  rintro e w24 (⟨ht,rfl,hf⟩|⟨ts24,ht,rfl,⟨h1,hb⟩,hf⟩)
  ·have ht:circ h=none:=(by exact ht)
   exact ⟨rfl,.inl ⟨(by show duty h=none;unfold duty;rw [HT1.o,HT2.o,(show times h.times=cat (number h.times) (ok [[116,105,109,101,115]]) from if_neg hc3.out),HT17.o,HT21.o,(show grace h.grace=ok [] from if_pos HGR.o),ht]<;>rfl),rfl,HF22.o.trans hf⟩⟩
  have ht:circ h=some ts24:=(by exact ht)
  have hl24:ts24.length≤(3*h.conds.length+5):=kq9 _ ht
  have HT24:=hdd ht
  obtain ⟨s24,HS24⟩: ∃z,Hid (s22.app ts24=z):=⟨_,rfl⟩
  have n24:s24.n≤s22.n+2*(3*h.conds.length+5):=by rw [←HS24.o,St.app_n];have:=hl24;omega
  have HW24:Hid (WQ P i G b k s24 w24):=by rw [←HS24.o];exact h1
  have HB24:Hid (w24.heap[i]?=some (.cells ((Rs.icells (circLeft ({{{{{h with name:= []} with of_:= [],act:= []} with times:=0} with times:=0} with within:=spanLeft h.within}):Rs.Item) (.slice none 0 0) d n l).toArray) 49 (0,0))):=hb
  have HF24:Hid (FN P w w24):=HF22.o.trans hf
  clear hb ht
  clear h1 hf
  go_wp2_with fail
  refine (cons_any HW24.o HI.o HG.o HB24.o (Ok.circ (by cases HO.o;constructor<;>first|assumption|(apply jx8;assumption)|exact Nat.zero_le _)) (by omega)).mono ?_
  rintro e w25 (⟨ht,rfl,hf⟩|⟨ts25,ht,rfl,⟨h1,hb⟩,hf⟩)
  ·have ht:cons h=none:=(by rw [jj6] at ht;exact ht)
   exact ⟨rfl,.inl ⟨(by show duty h=none;unfold duty;rw [HT1.o,HT2.o,(show times h.times=cat (number h.times) (ok [[116,105,109,101,115]]) from if_neg hc3.out),HT17.o,HT21.o,(show grace h.grace=ok [] from if_pos HGR.o),HT24.o,ht]<;>rfl),rfl,HF24.o.trans hf⟩⟩
  have ht:cons h=some ts25:=(by rw [jj6] at ht;exact ht)
  have hl25:ts25.length≤8:=cons_le _ ht
  have HT25:=hdd ht
  obtain ⟨s25,HS25⟩: ∃z,Hid (s24.app ts25=z):=⟨_,rfl⟩
  have n25:s25.n≤s24.n+2*8:=by rw [←HS25.o,St.app_n];have:=hl25;omega
  have HW25:Hid (WQ P i G b k s25 w25):=by rw [←HS25.o];exact h1
  have HB25:Hid (w25.heap[i]?=some (.cells ((Rs.icells (consLeft (circLeft ({{{{{h with name:= []} with of_:= [],act:= []} with times:=0} with times:=0} with within:=spanLeft h.within})):Rs.Item) (.slice none 0 0) d n l).toArray) 49 (0,0))):=hb
  have HF25:Hid (FN P w w25):=HF24.o.trans hf
  clear hb ht
  clear h1 hf
  go_wp2_with fail
  refine (jq3 HW25.o [[59]] _ rfl _ _ (by decide) (by show s25.n+2*1≤lim;omega)).mono ?_
  rintro e w26 ⟨rfl,h1,hf⟩
  have hl26:([[59]]:List Rs.Bytes).length≤1:=by decide
  obtain ⟨s26,HS26⟩: ∃z,Hid (s25.app [[59]]=z):=⟨_,rfl⟩
  have n26:s26.n≤s25.n+2*1:=by rw [←HS26.o,St.app_n];have:=hl26;omega
  have HW26:Hid (WQ P i G b k s26 w26):=by rw [←HS26.o];exact h1
  have HB26:Hid (w26.heap[i]?=some (.cells ((Rs.icells (consLeft (circLeft ({{{{{h with name:= []} with of_:= [],act:= []} with times:=0} with times:=0} with within:=spanLeft h.within})):Rs.Item) (.slice none 0 0) d n l).toArray) 49 (0,0))):=hf.blk HB25.o (fun e=>e (.inr rfl))
  have HF26:Hid (FN P w w26):=HF25.o.trans (hf.mono (fun q _ e e2=>e (.inl e2)))
  clear h1 hf
  go_wp2_with fail
  first|go_end0|refine bodyPost_ret (results_none rfl _ _ _) rfl ?_
  exact .inr ⟨ts1++(ts2++(ts17++([[116,105,109,101,115]]++([]++([[119,105,116,104,105,110]]++(ts21++([]++(ts24++(ts25++([[59]])))))))))),(by show duty h=some _;unfold duty;rw [HT1.o,HT2.o,(show times h.times=cat (number h.times) (ok [[116,105,109,101,115]]) from if_neg hc3.out),HT17.o,HT21.o,(show grace h.grace=ok [] from if_pos HGR.o),HT24.o,HT25.o]<;>(first|rfl|simp [cat,ok,natureT,semi])),rfl,⟨(by rw [←St.app_app,HS1.o,←St.app_app,HS2.o,←St.app_app,HS17.o,←St.app_app,HS18.o,←St.app_app,HS19.o,←St.app_app,HS20.o,←St.app_app,HS21.o,←St.app_app,HS22.o,←St.app_app,HS24.o,←St.app_app,HS25.o,HS26.o];exact HW26.o),(by unfold dutyLeft;rw [if_pos HGR.o];exact HB26.o)⟩,HF26.o⟩
 have HGR:=hdd hgr
 clear hgr
 go_upto_region 9 with fail
 obtain ⟨gz,HGZ⟩: ∃q,Hid (w21.heap.size=q):=⟨_,rfl⟩
 obtain ⟨u,hu⟩: ∃u,w21.alloc (.cells #[.int .i64 0,.bool false,.string ⟨#[]⟩] 41)=u:=⟨_,rfl⟩
 have HFU:Hid (Fr (fun _=>False) w21 u):=by rw [←hu];exact (Fr.refl _ w21).alloc _
 have HZU:Hid (u.heap[gz]?=some (.cells #[.int .i64 0,.bool false,.string ⟨#[]⟩] 41 (0,0))):=by rw [←hu];exact jq2 HGZ.o.symm
 have HBU:Hid (u.heap[i]?=some (OI {{{{{h with name:= []} with of_:= [],act:= []} with times:=0} with times:=0} with within:=spanLeft h.within} c d n l)):=HFU.o.blk HB21.o (fun e=>e)
 have HWU:Hid (WQ P i G b k s21 u):=HW21.o.keep HFU.o
 have HFV:Hid (FN P w u):=HF21.o.trans (HFU.o.mono (fun _ _ e=>e.elim))
 have z0:u.cell? ⟨gz,0,none⟩=some (.int .i64 0):=jq0 HZU.o 0
 have z1:u.cell? ⟨gz,1,none⟩=some (.bool false):=jq0 HZU.o 1
 have z2:u.cell? ⟨gz,2,none⟩=some (.string ⟨#[]⟩):=jq0 HZU.o 2
 have g0:u.cell? ⟨i,10,none⟩=some (.int .i64 h.grace.days):=jq0 HBU.o 10
 have g1:u.cell? ⟨i,11,none⟩=some (.bool h.grace.bus):=jq0 HBU.o 11
 have g2:u.cell? ⟨i,12,none⟩=some (.string ⟨h.grace.name.toArray⟩):=jq0 HBU.o 12
 rw [hu,HGZ.o]
 clear hu
 have hne:=neq_span h.grace HGR.o
 go_quiet (fail)
 clear z0 z1 z2 g0 g1 g2 hne
 obtain ⟨w23,hd⟩: ∃v,u.drewN nq=v:=⟨_,rfl⟩
 have hfd:Fr (fun _=>False) u w23:=by rw [←hd];exact (Fr.refl _ u).drewN nq
 have HB23:Hid (w23.heap[i]?=some (OI {{{{{h with name:= []} with of_:= [],act:= []} with times:=0} with times:=0} with within:=spanLeft h.within} c d n l)):=hfd.blk HBU.o (fun e=>e)
 have HF23:Hid (FN P w w23):=HFV.o.trans (hfd.mono (fun _ _ e=>e.elim))
 have HWV:Hid (WQ P i G b k s21 w23):=HWU.o.keep hfd
 obtain ⟨s23,HS23⟩: ∃z,Hid (s21.app []=z):=⟨_,rfl⟩
 have n23:s23.n≤s21.n:=by rw [←HS23.o];exact Nat.le_refl _
 have HW23:Hid (WQ P i G b k s23 w23):=by rw [←HS23.o];exact HWV.o
 rw [hd]
 clear hfd hd HWU HFV HBU HZU HFU HGZ HWV
 go_wp2_with fail
 refine (jq3 HW23.o [[103,114,97,99,101]] _ rfl _ _ (by decide) (by show s23.n+2*1≤lim;omega)).mono ?_
 rintro e w27 ⟨rfl,h1,hf⟩
 have hl27:([[103,114,97,99,101]]:List Rs.Bytes).length≤1:=by decide
 obtain ⟨s27,HS27⟩: ∃z,Hid (s23.app [[103,114,97,99,101]]=z):=⟨_,rfl⟩
 have n27:s27.n≤s23.n+2*1:=by rw [←HS27.o,St.app_n];have:=hl27;omega
 have HW27:Hid (WQ P i G b k s27 w27):=by rw [←HS27.o];exact h1
 have HB27:Hid (w27.heap[i]?=some (OI {{{{{h with name:= []} with of_:= [],act:= []} with times:=0} with times:=0} with within:=spanLeft h.within} c d n l)):=hf.blk HB23.o (fun e=>e (.inr rfl))
 have HF27:Hid (FN P w w27):=HF23.o.trans (hf.mono (fun q _ e e2=>e (.inl e2)))
 clear h1 hf
 go_wp2_with fail
 refine (spanG_any HW27.o HI.o HG.o HB27.o (by cases HO.o;constructor<;>first|assumption|(apply jx8;assumption)|exact Nat.zero_le _) (by omega)).mono ?_
 rintro e w28 (⟨ht,rfl,hf⟩|⟨ts28,ht,rfl,⟨h1,hb⟩,hf⟩)
 ·have ht:span h.grace=none:=(by exact ht)
  exact ⟨rfl,.inl ⟨(by show duty h=none;unfold duty;rw [HT1.o,HT2.o,(show times h.times=cat (number h.times) (ok [[116,105,109,101,115]]) from if_neg hc3.out),HT17.o,HT21.o,(show grace h.grace=cat (ok [[103,114,97,99,101]]) (span h.grace) from if_neg HGR.o),ht]<;>rfl),rfl,HF27.o.trans hf⟩⟩
 have ht:span h.grace=some ts28:=(by exact ht)
 have hl28:ts28.length≤4:=jk8 _ ht
 have HT28:=hdd ht
 obtain ⟨s28,HS28⟩: ∃z,Hid (s27.app ts28=z):=⟨_,rfl⟩
 have n28:s28.n≤s27.n+2*4:=by rw [←HS28.o,St.app_n];have:=hl28;omega
 have HW28:Hid (WQ P i G b k s28 w28):=by rw [←HS28.o];exact h1
 have HB28:Hid (w28.heap[i]?=some (OI {{{{{{h with name:= []} with of_:= [],act:= []} with times:=0} with times:=0} with within:=spanLeft h.within} with grace:=spanLeft h.grace} c d n l)):=hb
 have HF28:Hid (FN P w w28):=HF27.o.trans hf
 clear hb ht
 clear h1 hf
 go_wp2_with fail
 refine (circ_any HW28.o HI.o HG.o HB28.o (by cases HO.o;constructor<;>first|assumption|(apply jx8;assumption)|exact Nat.zero_le _) (HR.o.fr HF28.o (fun q hq e=>e hq)) (by show _+6*h.conds.length+40≤lim;omega)).mono ?_
 rintro e w29 (⟨ht,rfl,hf⟩|⟨ts29,ht,rfl,⟨h1,hb⟩,hf⟩)
 ·have ht:circ h=none:=(by exact ht)
  exact ⟨rfl,.inl ⟨(by show duty h=none;unfold duty;rw [HT1.o,HT2.o,(show times h.times=cat (number h.times) (ok [[116,105,109,101,115]]) from if_neg hc3.out),HT17.o,HT21.o,(show grace h.grace=cat (ok [[103,114,97,99,101]]) (span h.grace) from if_neg HGR.o),HT28.o,ht]<;>rfl),rfl,HF28.o.trans hf⟩⟩
 have ht:circ h=some ts29:=(by exact ht)
 have hl29:ts29.length≤(3*h.conds.length+5):=kq9 _ ht
 have HT29:=hdd ht
 obtain ⟨s29,HS29⟩: ∃z,Hid (s28.app ts29=z):=⟨_,rfl⟩
 have n29:s29.n≤s28.n+2*(3*h.conds.length+5):=by rw [←HS29.o,St.app_n];have:=hl29;omega
 have HW29:Hid (WQ P i G b k s29 w29):=by rw [←HS29.o];exact h1
 have HB29:Hid (w29.heap[i]?=some (.cells ((Rs.icells (circLeft ({{{{{{h with name:= []} with of_:= [],act:= []} with times:=0} with times:=0} with within:=spanLeft h.within} with grace:=spanLeft h.grace}):Rs.Item) (.slice none 0 0) d n l).toArray) 49 (0,0))):=hb
 have HF29:Hid (FN P w w29):=HF28.o.trans hf
 clear hb ht
 clear h1 hf
 go_wp2_with fail
 refine (cons_any HW29.o HI.o HG.o HB29.o (Ok.circ (by cases HO.o;constructor<;>first|assumption|(apply jx8;assumption)|exact Nat.zero_le _)) (by omega)).mono ?_
 rintro e w30 (⟨ht,rfl,hf⟩|⟨ts30,ht,rfl,⟨h1,hb⟩,hf⟩)
 ·have ht:cons h=none:=(by rw [jj6] at ht;exact ht)
  exact ⟨rfl,.inl ⟨(by show duty h=none;unfold duty;rw [HT1.o,HT2.o,(show times h.times=cat (number h.times) (ok [[116,105,109,101,115]]) from if_neg hc3.out),HT17.o,HT21.o,(show grace h.grace=cat (ok [[103,114,97,99,101]]) (span h.grace) from if_neg HGR.o),HT28.o,HT29.o,ht]<;>rfl),rfl,HF29.o.trans hf⟩⟩
 have ht:cons h=some ts30:=(by rw [jj6] at ht;exact ht)
 have hl30:ts30.length≤8:=cons_le _ ht
 have HT30:=hdd ht
 obtain ⟨s30,HS30⟩: ∃z,Hid (s29.app ts30=z):=⟨_,rfl⟩
 have n30:s30.n≤s29.n+2*8:=by rw [←HS30.o,St.app_n];have:=hl30;omega
 have HW30:Hid (WQ P i G b k s30 w30):=by rw [←HS30.o];exact h1
 have HB30:Hid (w30.heap[i]?=some (.cells ((Rs.icells (consLeft (circLeft ({{{{{{h with name:= []} with of_:= [],act:= []} with times:=0} with times:=0} with within:=spanLeft h.within} with grace:=spanLeft h.grace})):Rs.Item) (.slice none 0 0) d n l).toArray) 49 (0,0))):=hb
 have HF30:Hid (FN P w w30):=HF29.o.trans hf
 clear hb ht
 clear h1 hf
 go_wp2_with fail
 refine (jq3 HW30.o [[59]] _ rfl _ _ (by decide) (by show s30.n+2*1≤lim;omega)).mono ?_
 rintro e w31 ⟨rfl,h1,hf⟩
 have hl31:([[59]]:List Rs.Bytes).length≤1:=by decide
 obtain ⟨s31,HS31⟩: ∃z,Hid (s30.app [[59]]=z):=⟨_,rfl⟩
 have n31:s31.n≤s30.n+2*1:=by rw [←HS31.o,St.app_n];have:=hl31;omega
 have HW31:Hid (WQ P i G b k s31 w31):=by rw [←HS31.o];exact h1
 have HB31:Hid (w31.heap[i]?=some (.cells ((Rs.icells (consLeft (circLeft ({{{{{{h with name:= []} with of_:= [],act:= []} with times:=0} with times:=0} with within:=spanLeft h.within} with grace:=spanLeft h.grace})):Rs.Item) (.slice none 0 0) d n l).toArray) 49 (0,0))):=hf.blk HB30.o (fun e=>e (.inr rfl))
 have HF31:Hid (FN P w w31):=HF30.o.trans (hf.mono (fun q _ e e2=>e (.inl e2)))
 clear h1 hf
 go_wp2_with fail
 first|go_end0|refine bodyPost_ret (results_none rfl _ _ _) rfl ?_
 exact .inr ⟨ts1++(ts2++(ts17++([[116,105,109,101,115]]++([]++([[119,105,116,104,105,110]]++(ts21++([]++([[103,114,97,99,101]]++(ts28++(ts29++(ts30++([[59]])))))))))))),(by show duty h=some _;unfold duty;rw [HT1.o,HT2.o,(show times h.times=cat (number h.times) (ok [[116,105,109,101,115]]) from if_neg hc3.out),HT17.o,HT21.o,(show grace h.grace=cat (ok [[103,114,97,99,101]]) (span h.grace) from if_neg HGR.o),HT28.o,HT29.o,HT30.o]<;>(first|rfl|simp [cat,ok,natureT,semi])),rfl,⟨(by rw [←St.app_app,HS1.o,←St.app_app,HS2.o,←St.app_app,HS17.o,←St.app_app,HS18.o,←St.app_app,HS19.o,←St.app_app,HS20.o,←St.app_app,HS21.o,←St.app_app,HS23.o,←St.app_app,HS27.o,←St.app_app,HS28.o,←St.app_app,HS29.o,←St.app_app,HS30.o,HS31.o];exact HW31.o),(by unfold dutyLeft;rw [if_neg HGR.o];exact HB31.o)⟩,HF31.o⟩
end Go.Proofs.YtfficindoecpfaaGreatDoor.Pt
