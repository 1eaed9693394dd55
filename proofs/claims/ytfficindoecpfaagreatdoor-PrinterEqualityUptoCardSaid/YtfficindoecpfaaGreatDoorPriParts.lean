/-
  The printer's writers of parts.
-/
import Derived.Test.YtfficindoecpfaaGreatDoorPkPriA
import Derived.Test.YtfficindoecpfaaGreatDoorPkPriP
import Derived.Test.YtfficindoecpfaaGreatDoorPkVw
set_option maxHeartbeats 64000000
set_option maxRecDepth 100000
set_option linter.unusedVariables false
set_option linter.unusedSimpArgs false
namespace Go.Proofs.YtfficindoecpfaaGreatDoor.Pt
open Go.RowKit Mem
def LeT (t:T) (n:Nat):Prop:= ∀l,t=some l→l.length≤n
theorem LeT.cat {a b:T} {m n:Nat} (ha:LeT a m) (hb:LeT b n):LeT (cat (a) (b)) (m+n):=fun l h=>by
 obtain ⟨x,y,h1,h2,rfl⟩:=jq4 h
 have:=ha x h1;have:=hb y h2
 rw [List.length_append];omega
theorem LeT.ite {c:Prop} [Decidable c] {a b:T} {n:Nat} (ha:LeT a n) (hb:LeT b n):LeT (if c then a else b) n:=by split<;>assumption
theorem LeT.mono {a:T} {m n:Nat} (h:LeT a m) (hn:m≤n):LeT a n:=fun l e=>Nat.le_trans (h l e) hn
theorem LeT.ok (l:List Rs.Bytes):LeT (ok l) l.length:=fun m h=>by injection h with h;subst h;exact Nat.le_refl _
theorem LeT.none (n:Nat):LeT none n:=fun l h=>by cases h
theorem jx7 {x:Rs.Bytes}:LeT (name x) 1:=by
 unfold name;split
 ·exact LeT.ok [x]
 ·exact LeT.none 1
theorem jv2 {x:Int}:LeT (number x) 1:=by
 unfold number;split
 ·exact LeT.ok [dec x]
 ·exact LeT.none 1
abbrev OI (h:Rs.Item) (c d n l:Value):Obj:= .cells (Rs.icells h c d n l).toArray 49 (0,0)
structure Ok (h:Rs.Item):Prop where
 name:h.name.length≤9223372036854775807
 of_:h.of_.length≤9223372036854775807
 act:h.act.length≤9223372036854775807
 by_:h.by_.length≤9223372036854775807
 til:h.til.length≤9223372036854775807
 unit:h.unit.length≤9223372036854775807
 sum:h.sum.length≤9223372036854775807
 give:h.give.length≤9223372036854775807
 to_:h.to_.length≤9223372036854775807
 wn:h.within.name.length≤9223372036854775807
 gn:h.grace.name.length≤9223372036854775807
 conds: ∀c∈h.conds,c.name.length≤9223372036854775807
 names: ∀x∈h.names,x.length≤9223372036854775807
theorem jj1 {G:Nat} {P:Nat→Prop} {b:Nat} {k:Value} {s:St} {w:World} {i:Nat} {h:Rs.Item} {c d n l:Value} (hw:WQ P i G b k s w) (hi: ¬P i) (hG: ∀q,q<G→P q) (hb:w.heap[i]?=some (.cells (Rs.icells h c d n l).toArray 49 (0,0))) (ho:Ok h) (hn:s.n+10≤lim) (x:Rs.Bytes) (hx:x.length≤31):
  Calls Tryz.prog 68 #[.pointer (some ⟨b,0,none⟩),.string ⟨x.toArray⟩,.pointer (some ⟨i,0,none⟩)] w (Out P (begin_ x h) (fun ts w'=>WQ P i G b k (s.app ts) w'∧w'.heap[i]?=some (OI {h with name:= []} c d n l)) w):=by
 have HW0:=hdd hw;have HI:=hdd hi;have HG:=hdd hG;have HB0:=hdd hb;have HO:=hdd ho
 have HF0:Hid (FN P w w):=Fr.refl _ _
 clear hw hi hG hb ho
 go_enter Tryz.func68,Tryz.ntmps68
 go_wp2_with fail
 refine (jq3 HW0.o [x] _ rfl _ _ (fun y hy=>by rw [List.mem_singleton.1 hy];exact hx) (by show s.n+2*1≤lim;omega)).mono ?_
 rintro e w1 ⟨rfl,h1,hf⟩
 have hl1:([x]:List Rs.Bytes).length≤1:=Nat.le_refl _
 obtain ⟨s1,HS1⟩: ∃z,Hid (s.app [x]=z):=⟨_,rfl⟩
 have n1:s1.n≤s.n+2*1:=by rw [←HS1.o,St.app_n];have:=hl1;omega
 have HW1:Hid (WQ P i G b k s1 w1):=by rw [←HS1.o];exact h1
 have HB1:Hid (w1.heap[i]?=some (OI h c d n l)):=hf.blk HB0.o (fun e=>e (.inr rfl))
 have HF1:Hid (FN P w w1):=HF0.o.trans (hf.mono (fun q _ e e2=>e (.inl e2)))
 clear h1 hf
 go_wp2_with fail
 refine (name_any HW1.o HI.o HG.o (h.name) HB1.o rfl (by exact HO.o.name) (by omega)).mono ?_
 rintro e w2 (⟨ht,rfl,hf⟩|⟨ts2,ht,rfl,⟨h1,hb⟩,hf⟩)
 ·have ht:name (h.name)=none:=ht
  exact ⟨rfl,.inl ⟨(by show begin_ x h=none;unfold begin_;rw [ht]<;>rfl),rfl,HF1.o.trans hf⟩⟩
 have ht:name (h.name)=some ts2:=ht
 have hl2:ts2.length≤1:=jx7 _ ht
 have HT2:=hdd ht
 obtain ⟨s2,HS2⟩: ∃z,Hid (s1.app ts2=z):=⟨_,rfl⟩
 have n2:s2.n≤s1.n+2*1:=by rw [←HS2.o,St.app_n];have:=hl2;omega
 have HW2:Hid (WQ P i G b k s2 w2):=by rw [←HS2.o];exact h1
 have HB2:Hid (w2.heap[i]?=some (OI {h with name:= []} c d n l)):=hb
 have HF2:Hid (FN P w w2):=HF1.o.trans hf
 clear hb ht
 clear h1 hf
 go_wp2_with fail
 first|go_end0|refine bodyPost_ret (results_none rfl _ _ _) rfl ?_
 exact .inr ⟨[x]++(ts2),(by show begin_ x h=some _;unfold begin_;rw [HT2.o]<;>(first|rfl|simp [cat,ok])),rfl,⟨(by rw [←St.app_app,HS1.o,HS2.o];exact HW2.o),HB2.o⟩,HF2.o⟩
theorem jz8 {x:Rs.Bytes} {h:Rs.Item}:LeT (begin_ x h) 2:=LeT.cat (LeT.ok [x]) jx7
theorem bearer_any {G:Nat} {P:Nat→Prop} {b:Nat} {k:Value} {s:St} {w:World} {i:Nat} {h:Rs.Item} {c d n l:Value} (hw:WQ P i G b k s w) (hi: ¬P i) (hG: ∀q,q<G→P q) (hb:w.heap[i]?=some (.cells (Rs.icells h c d n l).toArray 49 (0,0))) (ho:Ok h) (hn:s.n+10≤lim):
  Calls Tryz.prog 69 #[.pointer (some ⟨b,0,none⟩),.pointer (some ⟨i,0,none⟩)] w (Out P (bearer h) (fun ts w'=>WQ P i G b k (s.app ts) w'∧w'.heap[i]?=some (OI {h with of_:= [],act:= []} c d n l)) w):=by
 have HW0:=hdd hw;have HI:=hdd hi;have HG:=hdd hG;have HB0:=hdd hb;have HO:=hdd ho
 have HF0:Hid (FN P w w):=Fr.refl _ _
 clear hw hi hG hb ho
 go_enter Tryz.func69,Tryz.ntmps69
 go_wp2_with fail
 refine (jq3 HW0.o [[111,102]] _ rfl _ _ (by decide) (by show s.n+2*1≤lim;omega)).mono ?_
 rintro e w1 ⟨rfl,h1,hf⟩
 have hl1:([[111,102]]:List Rs.Bytes).length≤1:=by decide
 obtain ⟨s1,HS1⟩: ∃z,Hid (s.app [[111,102]]=z):=⟨_,rfl⟩
 have n1:s1.n≤s.n+2*1:=by rw [←HS1.o,St.app_n];have:=hl1;omega
 have HW1:Hid (WQ P i G b k s1 w1):=by rw [←HS1.o];exact h1
 have HB1:Hid (w1.heap[i]?=some (OI h c d n l)):=hf.blk HB0.o (fun e=>e (.inr rfl))
 have HF1:Hid (FN P w w1):=HF0.o.trans (hf.mono (fun q _ e e2=>e (.inl e2)))
 clear h1 hf
 go_wp2_with fail
 refine (name_any HW1.o HI.o HG.o (h.of_) HB1.o rfl (by exact HO.o.of_) (by omega)).mono ?_
 rintro e w2 (⟨ht,rfl,hf⟩|⟨ts2,ht,rfl,⟨h1,hb⟩,hf⟩)
 ·have ht:name (h.of_)=none:=ht
  exact ⟨rfl,.inl ⟨(by show bearer h=none;unfold bearer;rw [ht]<;>rfl),rfl,HF1.o.trans hf⟩⟩
 have ht:name (h.of_)=some ts2:=ht
 have hl2:ts2.length≤1:=jx7 _ ht
 have HT2:=hdd ht
 obtain ⟨s2,HS2⟩: ∃z,Hid (s1.app ts2=z):=⟨_,rfl⟩
 have n2:s2.n≤s1.n+2*1:=by rw [←HS2.o,St.app_n];have:=hl2;omega
 have HW2:Hid (WQ P i G b k s2 w2):=by rw [←HS2.o];exact h1
 have HB2:Hid (w2.heap[i]?=some (OI {h with of_:= []} c d n l)):=hb
 have HF2:Hid (FN P w w2):=HF1.o.trans hf
 clear hb ht
 clear h1 hf
 go_wp2_with fail
 refine (jq3 HW2.o [[58]] _ rfl _ _ (by decide) (by show s2.n+2*1≤lim;omega)).mono ?_
 rintro e w3 ⟨rfl,h1,hf⟩
 have hl3:([[58]]:List Rs.Bytes).length≤1:=by decide
 obtain ⟨s3,HS3⟩: ∃z,Hid (s2.app [[58]]=z):=⟨_,rfl⟩
 have n3:s3.n≤s2.n+2*1:=by rw [←HS3.o,St.app_n];have:=hl3;omega
 have HW3:Hid (WQ P i G b k s3 w3):=by rw [←HS3.o];exact h1
 have HB3:Hid (w3.heap[i]?=some (OI {h with of_:= []} c d n l)):=hf.blk HB2.o (fun e=>e (.inr rfl))
 have HF3:Hid (FN P w w3):=HF2.o.trans (hf.mono (fun q _ e e2=>e (.inl e2)))
 clear h1 hf
 go_wp2_with fail
 refine (name_any HW3.o HI.o HG.o (h.act) HB3.o rfl (by exact HO.o.act) (by omega)).mono ?_
 rintro e w4 (⟨ht,rfl,hf⟩|⟨ts4,ht,rfl,⟨h1,hb⟩,hf⟩)
 ·have ht:name (h.act)=none:=ht
  exact ⟨rfl,.inl ⟨(by show bearer h=none;unfold bearer;rw [HT2.o,ht]<;>rfl),rfl,HF3.o.trans hf⟩⟩
 have ht:name (h.act)=some ts4:=ht
 have hl4:ts4.length≤1:=jx7 _ ht
 have HT4:=hdd ht
 obtain ⟨s4,HS4⟩: ∃z,Hid (s3.app ts4=z):=⟨_,rfl⟩
 have n4:s4.n≤s3.n+2*1:=by rw [←HS4.o,St.app_n];have:=hl4;omega
 have HW4:Hid (WQ P i G b k s4 w4):=by rw [←HS4.o];exact h1
 have HB4:Hid (w4.heap[i]?=some (OI {{h with of_:= []} with act:= []} c d n l)):=hb
 have HF4:Hid (FN P w w4):=HF3.o.trans hf
 clear hb ht
 clear h1 hf
 go_wp2_with fail
 first|go_end0|refine bodyPost_ret (results_none rfl _ _ _) rfl ?_
 exact .inr ⟨[[111,102]]++(ts2++([[58]]++(ts4))),(by show bearer h=some _;unfold bearer;rw [HT2.o,HT4.o]<;>(first|rfl|simp [cat,ok])),rfl,⟨(by rw [←St.app_app,HS1.o,←St.app_app,HS2.o,←St.app_app,HS3.o,HS4.o];exact HW4.o),HB4.o⟩,HF4.o⟩
theorem kz4 {h:Rs.Item}:LeT (bearer h) 4:=LeT.cat (LeT.ok [_]) (LeT.cat jx7 (LeT.cat (LeT.ok [_]) jx7))
theorem kq5 {G:Nat} {P:Nat→Prop} {b:Nat} {k:Value} {s:St} {w:World} {i:Nat} {h:Rs.Item} {c d n l:Value} (hw:WQ P i G b k s w) (hi: ¬P i) (hG: ∀q,q<G→P q) (hb:w.heap[i]?=some (.cells (Rs.icells h c d n l).toArray 49 (0,0))) (ho:Ok h) (hn:s.n+20≤lim):
  Calls Tryz.prog 109 #[.pointer (some ⟨b,0,none⟩),.pointer (some ⟨i,0,none⟩)] w (Out P (amount h.num h.unit) (fun ts w'=>WQ P i G b k (s.app ts) w'∧w'.heap[i]?=some (OI (amountLeft h) c d n l)) w):=by
 have HW0:=hdd hw;have HI:=hdd hi;have HG:=hdd hG;have HB0:=hdd hb;have HO:=hdd ho
 have HF0:Hid (FN P w w):=Fr.refl _ _
 clear hw hi hG hb ho
 go_enter Tryz.func109,Tryz.ntmps109
 go_wp2_with fail
 refine (number_any HW0.o HI.o HG.o (h.num.num) HB0.o rfl (by omega)).mono ?_
 rintro e w1 (⟨ht,rfl,hf⟩|⟨ts1,ht,rfl,⟨h1,hb⟩,hf⟩)
 ·have ht:number (h.num.num)=none:=ht
  exact ⟨rfl,.inl ⟨(by show amount h.num h.unit=none;unfold amount;rw [ht]<;>rfl),rfl,HF0.o.trans hf⟩⟩
 have ht:number (h.num.num)=some ts1:=ht
 have hl1:ts1.length≤1:=jv2 _ ht
 have HT1:=hdd ht
 obtain ⟨s1,HS1⟩: ∃z,Hid (s.app ts1=z):=⟨_,rfl⟩
 have n1:s1.n≤s.n+2*1:=by rw [←HS1.o,St.app_n];have:=hl1;omega
 have HW1:Hid (WQ P i G b k s1 w1):=by rw [←HS1.o];exact h1
 have HB1:Hid (w1.heap[i]?=some (OI {h with num:=⟨0,h.num.den⟩} c d n l)):=hb
 have HF1:Hid (FN P w w1):=HF0.o.trans hf
 clear hb ht
 clear h1 hf
 by_cases hq2:h.num.den=1
 ·have hc2:=hdd hq2
  have c17:w1.cell? ⟨i,17,none⟩=some (.int .i64 1):=by rw [←hq2];exact jq0 HB1.o 17
  clear hq2
  have c3:w1.cell? ⟨i,16,none⟩=some (.int .i64 0):=jq0 HB1.o _
  have f3:w1.frozen? ⟨i,16,none⟩=false:=jq1 HB1.o _
  obtain ⟨w3,hw3⟩: ∃u,w1.setCell ⟨i,16,none⟩ (.int .i64 0)=u:=⟨_,rfl⟩
  have hf:Fr (fun q=>q=i) w1 w3:=by rw [←hw3];exact (Fr.refl (fun q=>q=i) w1).setb 16 _
  have HB3:Hid (w3.heap[i]?=some (OI {{h with num:=⟨0,h.num.den⟩} with num:=⟨0,h.num.den⟩} c d n l)):=by rw [←hw3];exact jq9 HB1.o 16 _
  have HW3:Hid (WQ P i G b k s1 w3):=HW1.o.fr hf (fun q e=>⟨.inr e,by have e:q=i:=e;subst e;exact Nat.le_of_not_lt fun h=>HI.o (HG.o _ h)⟩)
  have HF3:Hid (FN P w w3):=HF1.o.trans (hf.mono (fun q _ e e2=>by have e:q=i:=e;subst e;exact HI.o e2))
  clear hf
  have s3_:True:=trivial
  obtain ⟨s3,HS3⟩: ∃z,Hid (s1.app []=z):=⟨_,rfl⟩
  have n3:s3.n≤s1.n:=by rw [←HS3.o];exact Nat.le_refl _
  have HW3:Hid (WQ P i G b k s3 w3):=by rw [←HS3.o];exact HW3.o
  have c4:w3.cell? ⟨i,17,none⟩=some (.int .i64 h.num.den):=jq0 HB3.o _
  have f4:w3.frozen? ⟨i,17,none⟩=false:=jq1 HB3.o _
  obtain ⟨w4,hw4⟩: ∃u,w3.setCell ⟨i,17,none⟩ (.int .i64 0)=u:=⟨_,rfl⟩
  have hf:Fr (fun q=>q=i) w3 w4:=by rw [←hw4];exact (Fr.refl (fun q=>q=i) w3).setb 17 _
  have HB4:Hid (w4.heap[i]?=some (OI {{{h with num:=⟨0,h.num.den⟩} with num:=⟨0,h.num.den⟩} with num:=⟨0,0⟩} c d n l)):=by rw [←hw4];exact jq9 HB3.o 17 _
  have HW4:Hid (WQ P i G b k s3 w4):=HW3.o.fr hf (fun q e=>⟨.inr e,by have e:q=i:=e;subst e;exact Nat.le_of_not_lt fun h=>HI.o (HG.o _ h)⟩)
  have HF4:Hid (FN P w w4):=HF3.o.trans (hf.mono (fun q _ e e2=>by have e:q=i:=e;subst e;exact HI.o e2))
  clear hf
  have s4_:True:=trivial
  obtain ⟨s4,HS4⟩: ∃z,Hid (s3.app []=z):=⟨_,rfl⟩
  have n4:s4.n≤s3.n:=by rw [←HS4.o];exact Nat.le_refl _
  have HW4:Hid (WQ P i G b k s4 w4):=by rw [←HS4.o];exact HW4.o
  go_wp2_with fail
  refine (name_any HW4.o HI.o HG.o (h.unit) HB4.o rfl (by exact HO.o.unit) (by omega)).mono ?_
  rintro e w5 (⟨ht,rfl,hf⟩|⟨ts5,ht,rfl,⟨h1,hb⟩,hf⟩)
  ·have ht:name (h.unit)=none:=ht
   exact ⟨rfl,.inl ⟨(by show amount h.num h.unit=none;unfold amount;rw [HT1.o,if_pos hc2.out,ht]<;>rfl),rfl,HF4.o.trans hf⟩⟩
  have ht:name (h.unit)=some ts5:=ht
  clear c17 c3 f3 hw3 s3_ c4 f4 hw4 s4_
  have hl5:ts5.length≤1:=jx7 _ ht
  have HT5:=hdd ht
  obtain ⟨s5,HS5⟩: ∃z,Hid (s4.app ts5=z):=⟨_,rfl⟩
  have n5:s5.n≤s4.n+2*1:=by rw [←HS5.o,St.app_n];have:=hl5;omega
  have HW5:Hid (WQ P i G b k s5 w5):=by rw [←HS5.o];exact h1
  have HB5:Hid (w5.heap[i]?=some (OI {{{{h with num:=⟨0,h.num.den⟩} with num:=⟨0,h.num.den⟩} with num:=⟨0,0⟩} with unit:= []} c d n l)):=hb
  have HF5:Hid (FN P w w5):=HF4.o.trans hf
  clear hb ht
  clear h1 hf
  go_wp2_with fail
  first|go_end0|refine bodyPost_ret (results_none rfl _ _ _) rfl ?_
  exact .inr ⟨ts1++([]++([]++(ts5))),(by show amount h.num h.unit=some _;unfold amount;rw [HT1.o,if_pos hc2.out,HT5.o]<;>(first|rfl|simp [cat,ok])),rfl,⟨(by rw [←St.app_app,HS1.o,←St.app_app,HS3.o,←St.app_app,HS4.o,HS5.o];exact HW5.o),HB5.o⟩,HF5.o⟩
 have hc2:=hdd hq2
 have c17:w1.cell? ⟨i,17,none⟩=some (.int .i64 h.num.den):=jq0 HB1.o 17
 have q17:(h.num.den==1)=false:=beq_eq_false_iff_ne.2 hq2
 have q17b:(h.num.den !=1)=true:=by simpa using hq2
 clear hq2
 go_wp2_with fail
 refine (jq3 HW1.o [[47]] _ rfl _ _ (by decide) (by show s1.n+2*1≤lim;omega)).mono ?_
 rintro e w6 ⟨rfl,h1,hf⟩
 clear c17 q17 q17b
 have hl6:([[47]]:List Rs.Bytes).length≤1:=by decide
 obtain ⟨s6,HS6⟩: ∃z,Hid (s1.app [[47]]=z):=⟨_,rfl⟩
 have n6:s6.n≤s1.n+2*1:=by rw [←HS6.o,St.app_n];have:=hl6;omega
 have HW6:Hid (WQ P i G b k s6 w6):=by rw [←HS6.o];exact h1
 have HB6:Hid (w6.heap[i]?=some (OI {h with num:=⟨0,h.num.den⟩} c d n l)):=hf.blk HB1.o (fun e=>e (.inr rfl))
 have HF6:Hid (FN P w w6):=HF1.o.trans (hf.mono (fun q _ e e2=>e (.inl e2)))
 clear h1 hf
 go_wp2_with fail
 refine (number_any HW6.o HI.o HG.o (h.num.den) HB6.o rfl (by omega)).mono ?_
 rintro e w7 (⟨ht,rfl,hf⟩|⟨ts7,ht,rfl,⟨h1,hb⟩,hf⟩)
 ·have ht:number (h.num.den)=none:=ht
  exact ⟨rfl,.inl ⟨(by show amount h.num h.unit=none;unfold amount;rw [HT1.o,if_neg hc2.out,ht]<;>rfl),rfl,HF6.o.trans hf⟩⟩
 have ht:number (h.num.den)=some ts7:=ht
 have hl7:ts7.length≤1:=jv2 _ ht
 have HT7:=hdd ht
 obtain ⟨s7,HS7⟩: ∃z,Hid (s6.app ts7=z):=⟨_,rfl⟩
 have n7:s7.n≤s6.n+2*1:=by rw [←HS7.o,St.app_n];have:=hl7;omega
 have HW7:Hid (WQ P i G b k s7 w7):=by rw [←HS7.o];exact h1
 have HB7:Hid (w7.heap[i]?=some (OI {{h with num:=⟨0,h.num.den⟩} with num:=⟨0,0⟩} c d n l)):=hb
 have HF7:Hid (FN P w w7):=HF6.o.trans hf
 clear hb ht
 clear h1 hf
 have c8:w7.cell? ⟨i,16,none⟩=some (.int .i64 0):=jq0 HB7.o _
 have f8:w7.frozen? ⟨i,16,none⟩=false:=jq1 HB7.o _
 obtain ⟨w8,hw8⟩: ∃u,w7.setCell ⟨i,16,none⟩ (.int .i64 0)=u:=⟨_,rfl⟩
 have hf:Fr (fun q=>q=i) w7 w8:=by rw [←hw8];exact (Fr.refl (fun q=>q=i) w7).setb 16 _
 have HB8:Hid (w8.heap[i]?=some (OI {{{h with num:=⟨0,h.num.den⟩} with num:=⟨0,0⟩} with num:=⟨0,0⟩} c d n l)):=by rw [←hw8];exact jq9 HB7.o 16 _
 have HW8:Hid (WQ P i G b k s7 w8):=HW7.o.fr hf (fun q e=>⟨.inr e,by have e:q=i:=e;subst e;exact Nat.le_of_not_lt fun h=>HI.o (HG.o _ h)⟩)
 have HF8:Hid (FN P w w8):=HF7.o.trans (hf.mono (fun q _ e e2=>by have e:q=i:=e;subst e;exact HI.o e2))
 clear hf
 have s8_:True:=trivial
 obtain ⟨s8,HS8⟩: ∃z,Hid (s7.app []=z):=⟨_,rfl⟩
 have n8:s8.n≤s7.n:=by rw [←HS8.o];exact Nat.le_refl _
 have HW8:Hid (WQ P i G b k s8 w8):=by rw [←HS8.o];exact HW8.o
 have c9:w8.cell? ⟨i,17,none⟩=some (.int .i64 0):=jq0 HB8.o _
 have f9:w8.frozen? ⟨i,17,none⟩=false:=jq1 HB8.o _
 obtain ⟨w9,hw9⟩: ∃u,w8.setCell ⟨i,17,none⟩ (.int .i64 0)=u:=⟨_,rfl⟩
 have hf:Fr (fun q=>q=i) w8 w9:=by rw [←hw9];exact (Fr.refl (fun q=>q=i) w8).setb 17 _
 have HB9:Hid (w9.heap[i]?=some (OI {{{{h with num:=⟨0,h.num.den⟩} with num:=⟨0,0⟩} with num:=⟨0,0⟩} with num:=⟨0,0⟩} c d n l)):=by rw [←hw9];exact jq9 HB8.o 17 _
 have HW9:Hid (WQ P i G b k s8 w9):=HW8.o.fr hf (fun q e=>⟨.inr e,by have e:q=i:=e;subst e;exact Nat.le_of_not_lt fun h=>HI.o (HG.o _ h)⟩)
 have HF9:Hid (FN P w w9):=HF8.o.trans (hf.mono (fun q _ e e2=>by have e:q=i:=e;subst e;exact HI.o e2))
 clear hf
 have s9_:True:=trivial
 obtain ⟨s9,HS9⟩: ∃z,Hid (s8.app []=z):=⟨_,rfl⟩
 have n9:s9.n≤s8.n:=by rw [←HS9.o];exact Nat.le_refl _
 have HW9:Hid (WQ P i G b k s9 w9):=by rw [←HS9.o];exact HW9.o
 go_wp2_with fail
 refine (name_any HW9.o HI.o HG.o (h.unit) HB9.o rfl (by exact HO.o.unit) (by omega)).mono ?_
 rintro e w10 (⟨ht,rfl,hf⟩|⟨ts10,ht,rfl,⟨h1,hb⟩,hf⟩)
 ·have ht:name (h.unit)=none:=ht
  exact ⟨rfl,.inl ⟨(by show amount h.num h.unit=none;unfold amount;rw [HT1.o,if_neg hc2.out,HT7.o,ht]<;>rfl),rfl,HF9.o.trans hf⟩⟩
 have ht:name (h.unit)=some ts10:=ht
 clear c8 f8 hw8 s8_ c9 f9 hw9 s9_
 have hl10:ts10.length≤1:=jx7 _ ht
 have HT10:=hdd ht
 obtain ⟨s10,HS10⟩: ∃z,Hid (s9.app ts10=z):=⟨_,rfl⟩
 have n10:s10.n≤s9.n+2*1:=by rw [←HS10.o,St.app_n];have:=hl10;omega
 have HW10:Hid (WQ P i G b k s10 w10):=by rw [←HS10.o];exact h1
 have HB10:Hid (w10.heap[i]?=some (OI {{{{{h with num:=⟨0,h.num.den⟩} with num:=⟨0,0⟩} with num:=⟨0,0⟩} with num:=⟨0,0⟩} with unit:= []} c d n l)):=hb
 have HF10:Hid (FN P w w10):=HF9.o.trans hf
 clear hb ht
 clear h1 hf
 go_wp2_with fail
 first|go_end0|refine bodyPost_ret (results_none rfl _ _ _) rfl ?_
 exact .inr ⟨ts1++([[47]]++(ts7++([]++([]++(ts10))))),(by show amount h.num h.unit=some _;unfold amount;rw [HT1.o,if_neg hc2.out,HT7.o,HT10.o]<;>(first|rfl|simp [cat,ok])),rfl,⟨(by rw [←St.app_app,HS1.o,←St.app_app,HS6.o,←St.app_app,HS7.o,←St.app_app,HS8.o,←St.app_app,HS9.o,HS10.o];exact HW10.o),HB10.o⟩,HF10.o⟩
theorem jj5 {r:Rs.Ratio} {u:Rs.Bytes}:LeT (amount r u) 4:=LeT.cat jv2 (LeT.cat (LeT.ite ((LeT.ok []).mono (by decide)) (LeT.cat (LeT.ok [_]) jv2)) jx7)
theorem daysW_any {G:Nat} {P:Nat→Prop} {b:Nat} {k:Value} {s:St} {w:World} {i:Nat} {h:Rs.Item} {c d n l:Value} (hw:WQ P i G b k s w) (hi: ¬P i) (hG: ∀q,q<G→P q) (hb:w.heap[i]?=some (.cells (Rs.icells h c d n l).toArray 49 (0,0))) (ho:Ok h) (hn:s.n+20≤lim):
  Calls Tryz.prog 108 #[.pointer (some ⟨b,0,none⟩),.pointer (some ⟨i,7,none⟩)] w (Out P (daysT h.within) (fun ts w'=>WQ P i G b k (s.app ts) w'∧w'.heap[i]?=some (OI {h with within:=daysLeft h.within} c d n l)) w):=by
 have HW0:=hdd hw;have HI:=hdd hi;have HG:=hdd hG;have HB0:=hdd hb;have HO:=hdd ho
 have HF0:Hid (FN P w w):=Fr.refl _ _
 clear hw hi hG hb ho
 go_enter Tryz.func108,Tryz.ntmps108
 go_wp2_with fail
 refine (number_any HW0.o HI.o HG.o (h.within.days) HB0.o rfl (by omega)).mono ?_
 rintro e w1 (⟨ht,rfl,hf⟩|⟨ts1,ht,rfl,⟨h1,hb⟩,hf⟩)
 ·have ht:number (h.within.days)=none:=ht
  exact ⟨rfl,.inl ⟨(by show daysT h.within=none;unfold daysT;rw [ht]<;>rfl),rfl,HF0.o.trans hf⟩⟩
 have ht:number (h.within.days)=some ts1:=ht
 have hl1:ts1.length≤1:=jv2 _ ht
 have HT1:=hdd ht
 obtain ⟨s1,HS1⟩: ∃z,Hid (s.app ts1=z):=⟨_,rfl⟩
 have n1:s1.n≤s.n+2*1:=by rw [←HS1.o,St.app_n];have:=hl1;omega
 have HW1:Hid (WQ P i G b k s1 w1):=by rw [←HS1.o];exact h1
 have HB1:Hid (w1.heap[i]?=some (OI {h with within:= {h.within with days:=0}} c d n l)):=hb
 have HF1:Hid (FN P w w1):=HF0.o.trans hf
 clear hb ht
 clear h1 hf
 by_cases hq2:h.within.bus=true
 ·have hc2:=hdd hq2
  have cb:w1.cell? ⟨i,8,none⟩=some (.bool true):=by rw [←hq2];exact jq0 HB1.o 8
  clear hq2
  go_wp2_with fail
  refine (jq3 HW1.o [[98,117,115,105,110,101,115,115]] _ rfl _ _ (by decide) (by show s1.n+2*1≤lim;omega)).mono ?_
  rintro e w3 ⟨rfl,h1,hf⟩
  clear cb
  have hl3:([[98,117,115,105,110,101,115,115]]:List Rs.Bytes).length≤1:=by decide
  obtain ⟨s3,HS3⟩: ∃z,Hid (s1.app [[98,117,115,105,110,101,115,115]]=z):=⟨_,rfl⟩
  have n3:s3.n≤s1.n+2*1:=by rw [←HS3.o,St.app_n];have:=hl3;omega
  have HW3:Hid (WQ P i G b k s3 w3):=by rw [←HS3.o];exact h1
  have HB3:Hid (w3.heap[i]?=some (OI {h with within:= {h.within with days:=0}} c d n l)):=hf.blk HB1.o (fun e=>e (.inr rfl))
  have HF3:Hid (FN P w w3):=HF1.o.trans (hf.mono (fun q _ e e2=>e (.inl e2)))
  clear h1 hf
  have c4:w3.cell? ⟨i,8,none⟩=some (.bool h.within.bus):=jq0 HB3.o _
  have f4:w3.frozen? ⟨i,8,none⟩=false:=jq1 HB3.o _
  obtain ⟨w4,hw4⟩: ∃u,w3.setCell ⟨i,8,none⟩ (.bool false)=u:=⟨_,rfl⟩
  have hf:Fr (fun q=>q=i) w3 w4:=by rw [←hw4];exact (Fr.refl (fun q=>q=i) w3).setb 8 _
  have HB4:Hid (w4.heap[i]?=some (OI {{h with within:= {h.within with days:=0}} with within:= {h.within with days:=0,bus:=false}} c d n l)):=by rw [←hw4];exact jq9 HB3.o 8 _
  have HW4:Hid (WQ P i G b k s3 w4):=HW3.o.fr hf (fun q e=>⟨.inr e,by have e:q=i:=e;subst e;exact Nat.le_of_not_lt fun h=>HI.o (HG.o _ h)⟩)
  have HF4:Hid (FN P w w4):=HF3.o.trans (hf.mono (fun q _ e e2=>by have e:q=i:=e;subst e;exact HI.o e2))
  clear hf
  have s4_:True:=trivial
  obtain ⟨s4,HS4⟩: ∃z,Hid (s3.app []=z):=⟨_,rfl⟩
  have n4:s4.n≤s3.n:=by rw [←HS4.o];exact Nat.le_refl _
  have HW4:Hid (WQ P i G b k s4 w4):=by rw [←HS4.o];exact HW4.o
  go_wp2_with fail
  refine (jq3 HW4.o [[100,97,121,115]] _ rfl _ _ (by decide) (by show s4.n+2*1≤lim;omega)).mono ?_
  rintro e w5 ⟨rfl,h1,hf⟩
  clear c4 f4 hw4 s4_
  have hl5:([[100,97,121,115]]:List Rs.Bytes).length≤1:=by decide
  obtain ⟨s5,HS5⟩: ∃z,Hid (s4.app [[100,97,121,115]]=z):=⟨_,rfl⟩
  have n5:s5.n≤s4.n+2*1:=by rw [←HS5.o,St.app_n];have:=hl5;omega
  have HW5:Hid (WQ P i G b k s5 w5):=by rw [←HS5.o];exact h1
  have HB5:Hid (w5.heap[i]?=some (OI {{h with within:= {h.within with days:=0}} with within:= {h.within with days:=0,bus:=false}} c d n l)):=hf.blk HB4.o (fun e=>e (.inr rfl))
  have HF5:Hid (FN P w w5):=HF4.o.trans (hf.mono (fun q _ e e2=>e (.inl e2)))
  clear h1 hf
  go_wp2_with fail
  first|go_end0|refine bodyPost_ret (results_none rfl _ _ _) rfl ?_
  exact .inr ⟨ts1++([[98,117,115,105,110,101,115,115]]++([]++([[100,97,121,115]]))),(by show daysT h.within=some _;unfold daysT;rw [HT1.o,if_pos hc2.out]<;>(first|rfl|simp [cat,ok])),rfl,⟨(by rw [←St.app_app,HS1.o,←St.app_app,HS3.o,←St.app_app,HS4.o,HS5.o];exact HW5.o),HB5.o⟩,HF5.o⟩
 have hc2:=hdd hq2
 have hqf:h.within.bus=false:=by simpa using hq2
 have cb:w1.cell? ⟨i,8,none⟩=some (.bool false):=by rw [←hqf];exact jq0 HB1.o 8
 have HQF:=hdd hqf
 clear hqf
 clear hq2
 go_wp2_with fail
 refine (jq3 HW1.o [[100,97,121,115]] _ rfl _ _ (by decide) (by show s1.n+2*1≤lim;omega)).mono ?_
 rintro e w6 ⟨rfl,h1,hf⟩
 clear cb
 have hl6:([[100,97,121,115]]:List Rs.Bytes).length≤1:=by decide
 obtain ⟨s6,HS6⟩: ∃z,Hid (s1.app [[100,97,121,115]]=z):=⟨_,rfl⟩
 have n6:s6.n≤s1.n+2*1:=by rw [←HS6.o,St.app_n];have:=hl6;omega
 have HW6:Hid (WQ P i G b k s6 w6):=by rw [←HS6.o];exact h1
 have HB6:Hid (w6.heap[i]?=some (OI {h with within:= {h.within with days:=0}} c d n l)):=hf.blk HB1.o (fun e=>e (.inr rfl))
 have HF6:Hid (FN P w w6):=HF1.o.trans (hf.mono (fun q _ e e2=>e (.inl e2)))
 clear h1 hf
 go_wp2_with fail
 first|go_end0|refine bodyPost_ret (results_none rfl _ _ _) rfl ?_
 exact .inr ⟨ts1++([[100,97,121,115]]),(by show daysT h.within=some _;unfold daysT;rw [HT1.o,if_neg hc2.out]<;>(first|rfl|simp [cat,ok])),rfl,⟨(by rw [←St.app_app,HS1.o,HS6.o];exact HW6.o),(by have hb:=HB6.o;simp only [daysLeft];simp only [HQF.o] at hb;exact hb)⟩,HF6.o⟩
theorem days_le {x:Rs.Span}:LeT (daysT x) 4:=(LeT.cat jv2 (LeT.cat (LeT.ite (LeT.ok [_]) ((LeT.ok []).mono (by decide))) (LeT.ok [_]))).mono (by decide)
theorem spanW_any {G:Nat} {P:Nat→Prop} {b:Nat} {k:Value} {s:St} {w:World} {i:Nat} {h:Rs.Item} {c d n l:Value} (hw:WQ P i G b k s w) (hi: ¬P i) (hG: ∀q,q<G→P q) (hb:w.heap[i]?=some (.cells (Rs.icells h c d n l).toArray 49 (0,0))) (ho:Ok h) (hn:s.n+20≤lim):
  Calls Tryz.prog 70 #[.pointer (some ⟨b,0,none⟩),.pointer (some ⟨i,7,none⟩)] w (Out P (span h.within) (fun ts w'=>WQ P i G b k (s.app ts) w'∧w'.heap[i]?=some (OI {h with within:=spanLeft h.within} c d n l)) w):=by
 have HW0:=hdd hw;have HI:=hdd hi;have HG:=hdd hG;have HB0:=hdd hb;have HO:=hdd ho
 have HF0:Hid (FN P w w):=Fr.refl _ _
 clear hw hi hG hb ho
 go_enter Tryz.func70,Tryz.ntmps70
 by_cases hq1:h.within.name= []
 ·have hc1:=hdd hq1
  have cn:w.cell? ⟨i,9,none⟩=some (.string ⟨#[]⟩):=(jq0 HB0.o 9).trans (by show some (sv h.within.name)=_;rw [hq1])
  clear hq1
  go_wp2_with fail
  refine (daysW_any HW0.o HI.o HG.o HB0.o (by constructor<;>first|exact HO.o.name|exact HO.o.of_|exact HO.o.act|exact HO.o.by_|exact HO.o.til|exact HO.o.unit|exact HO.o.sum|exact HO.o.give|exact HO.o.to_|exact HO.o.wn|exact HO.o.gn|exact HO.o.conds|exact HO.o.names|exact Nat.zero_le _) (by omega)).mono ?_
  rintro e w2 (⟨ht,rfl,hf⟩|⟨ts2,ht,rfl,⟨h1,hb⟩,hf⟩)
  ·have ht:daysT h.within=none:=ht
   exact ⟨rfl,.inl ⟨(by show span h.within=none;unfold span;rw [if_pos hc1.out,ht]<;>rfl),rfl,HF0.o.trans hf⟩⟩
  have ht:daysT h.within=some ts2:=ht
  clear cn
  have hl2:ts2.length≤4:=days_le _ ht
  have HT2:=hdd ht
  obtain ⟨s2,HS2⟩: ∃z,Hid (s.app ts2=z):=⟨_,rfl⟩
  have n2:s2.n≤s.n+2*4:=by rw [←HS2.o,St.app_n];have:=hl2;omega
  have HW2:Hid (WQ P i G b k s2 w2):=by rw [←HS2.o];exact h1
  have HB2:Hid (w2.heap[i]?=some (OI {h with within:=daysLeft h.within} c d n l)):=hb
  have HF2:Hid (FN P w w2):=HF0.o.trans hf
  clear hb ht
  clear h1 hf
  go_wp2_with fail
  first|go_end0|refine bodyPost_ret (results_none rfl _ _ _) rfl ?_
  exact .inr ⟨ts2,(by show span h.within=some _;unfold span;rw [if_pos hc1.out,HT2.o]<;>(first|rfl|simp [cat,ok])),rfl,⟨(by rw [HS2.o];exact HW2.o),(by unfold spanLeft;rw [if_pos hc1.out];exact HB2.o)⟩,HF2.o⟩
 have hc1:=hdd hq1
 have cn:w.cell? ⟨i,9,none⟩=some (.string ⟨h.within.name.toArray⟩):=jq0 HB0.o 9
 have qn:(h.within.name== [])=false:=by simpa using hq1
 have qn2:(h.within.name != [])=true:=by simpa using hq1
 clear hq1
 go_wp2_with fail
 refine (name_any HW0.o HI.o HG.o (h.within.name) HB0.o rfl (by exact HO.o.wn) (by omega)).mono ?_
 rintro e w3 (⟨ht,rfl,hf⟩|⟨ts3,ht,rfl,⟨h1,hb⟩,hf⟩)
 ·have ht:name (h.within.name)=none:=ht
  exact ⟨rfl,.inl ⟨(by show span h.within=none;unfold span;rw [if_neg hc1.out,ht]<;>rfl),rfl,HF0.o.trans hf⟩⟩
 have ht:name (h.within.name)=some ts3:=ht
 clear cn qn qn2
 have hl3:ts3.length≤1:=jx7 _ ht
 have HT3:=hdd ht
 obtain ⟨s3,HS3⟩: ∃z,Hid (s.app ts3=z):=⟨_,rfl⟩
 have n3:s3.n≤s.n+2*1:=by rw [←HS3.o,St.app_n];have:=hl3;omega
 have HW3:Hid (WQ P i G b k s3 w3):=by rw [←HS3.o];exact h1
 have HB3:Hid (w3.heap[i]?=some (OI {h with within:= {h.within with name:= []}} c d n l)):=hb
 have HF3:Hid (FN P w w3):=HF0.o.trans hf
 clear hb ht
 clear h1 hf
 go_wp2_with fail
 first|go_end0|refine bodyPost_ret (results_none rfl _ _ _) rfl ?_
 exact .inr ⟨ts3,(by show span h.within=some _;unfold span;rw [if_neg hc1.out,HT3.o]<;>(first|rfl|simp [cat,ok])),rfl,⟨(by rw [HS3.o];exact HW3.o),(by unfold spanLeft;rw [if_neg hc1.out];exact HB3.o)⟩,HF3.o⟩
theorem daysG_any {G:Nat} {P:Nat→Prop} {b:Nat} {k:Value} {s:St} {w:World} {i:Nat} {h:Rs.Item} {c d n l:Value} (hw:WQ P i G b k s w) (hi: ¬P i) (hG: ∀q,q<G→P q) (hb:w.heap[i]?=some (.cells (Rs.icells h c d n l).toArray 49 (0,0))) (ho:Ok h) (hn:s.n+20≤lim):
  Calls Tryz.prog 108 #[.pointer (some ⟨b,0,none⟩),.pointer (some ⟨i,10,none⟩)] w (Out P (daysT h.grace) (fun ts w'=>WQ P i G b k (s.app ts) w'∧w'.heap[i]?=some (OI {h with grace:=daysLeft h.grace} c d n l)) w):=by
 have HW0:=hdd hw;have HI:=hdd hi;have HG:=hdd hG;have HB0:=hdd hb;have HO:=hdd ho
 have HF0:Hid (FN P w w):=Fr.refl _ _
 clear hw hi hG hb ho
 go_enter Tryz.func108,Tryz.ntmps108
 go_wp2_with fail
 refine (number_any HW0.o HI.o HG.o (h.grace.days) HB0.o rfl (by omega)).mono ?_
 rintro e w1 (⟨ht,rfl,hf⟩|⟨ts1,ht,rfl,⟨h1,hb⟩,hf⟩)
 ·have ht:number (h.grace.days)=none:=ht
  exact ⟨rfl,.inl ⟨(by show daysT h.grace=none;unfold daysT;rw [ht]<;>rfl),rfl,HF0.o.trans hf⟩⟩
 have ht:number (h.grace.days)=some ts1:=ht
 have hl1:ts1.length≤1:=jv2 _ ht
 have HT1:=hdd ht
 obtain ⟨s1,HS1⟩: ∃z,Hid (s.app ts1=z):=⟨_,rfl⟩
 have n1:s1.n≤s.n+2*1:=by rw [←HS1.o,St.app_n];have:=hl1;omega
 have HW1:Hid (WQ P i G b k s1 w1):=by rw [←HS1.o];exact h1
 have HB1:Hid (w1.heap[i]?=some (OI {h with grace:= {h.grace with days:=0}} c d n l)):=hb
 have HF1:Hid (FN P w w1):=HF0.o.trans hf
 clear hb ht
 clear h1 hf
 by_cases hq2:h.grace.bus=true
 ·have hc2:=hdd hq2
  have cb:w1.cell? ⟨i,11,none⟩=some (.bool true):=by rw [←hq2];exact jq0 HB1.o 11
  clear hq2
  go_wp2_with fail
  refine (jq3 HW1.o [[98,117,115,105,110,101,115,115]] _ rfl _ _ (by decide) (by show s1.n+2*1≤lim;omega)).mono ?_
  rintro e w3 ⟨rfl,h1,hf⟩
  clear cb
  have hl3:([[98,117,115,105,110,101,115,115]]:List Rs.Bytes).length≤1:=by decide
  obtain ⟨s3,HS3⟩: ∃z,Hid (s1.app [[98,117,115,105,110,101,115,115]]=z):=⟨_,rfl⟩
  have n3:s3.n≤s1.n+2*1:=by rw [←HS3.o,St.app_n];have:=hl3;omega
  have HW3:Hid (WQ P i G b k s3 w3):=by rw [←HS3.o];exact h1
  have HB3:Hid (w3.heap[i]?=some (OI {h with grace:= {h.grace with days:=0}} c d n l)):=hf.blk HB1.o (fun e=>e (.inr rfl))
  have HF3:Hid (FN P w w3):=HF1.o.trans (hf.mono (fun q _ e e2=>e (.inl e2)))
  clear h1 hf
  have c4:w3.cell? ⟨i,11,none⟩=some (.bool h.grace.bus):=jq0 HB3.o _
  have f4:w3.frozen? ⟨i,11,none⟩=false:=jq1 HB3.o _
  obtain ⟨w4,hw4⟩: ∃u,w3.setCell ⟨i,11,none⟩ (.bool false)=u:=⟨_,rfl⟩
  have hf:Fr (fun q=>q=i) w3 w4:=by rw [←hw4];exact (Fr.refl (fun q=>q=i) w3).setb 11 _
  have HB4:Hid (w4.heap[i]?=some (OI {{h with grace:= {h.grace with days:=0}} with grace:= {h.grace with days:=0,bus:=false}} c d n l)):=by rw [←hw4];exact jq9 HB3.o 11 _
  have HW4:Hid (WQ P i G b k s3 w4):=HW3.o.fr hf (fun q e=>⟨.inr e,by have e:q=i:=e;subst e;exact Nat.le_of_not_lt fun h=>HI.o (HG.o _ h)⟩)
  have HF4:Hid (FN P w w4):=HF3.o.trans (hf.mono (fun q _ e e2=>by have e:q=i:=e;subst e;exact HI.o e2))
  clear hf
  have s4_:True:=trivial
  obtain ⟨s4,HS4⟩: ∃z,Hid (s3.app []=z):=⟨_,rfl⟩
  have n4:s4.n≤s3.n:=by rw [←HS4.o];exact Nat.le_refl _
  have HW4:Hid (WQ P i G b k s4 w4):=by rw [←HS4.o];exact HW4.o
  go_wp2_with fail
  refine (jq3 HW4.o [[100,97,121,115]] _ rfl _ _ (by decide) (by show s4.n+2*1≤lim;omega)).mono ?_
  rintro e w5 ⟨rfl,h1,hf⟩
  clear c4 f4 hw4 s4_
  have hl5:([[100,97,121,115]]:List Rs.Bytes).length≤1:=by decide
  obtain ⟨s5,HS5⟩: ∃z,Hid (s4.app [[100,97,121,115]]=z):=⟨_,rfl⟩
  have n5:s5.n≤s4.n+2*1:=by rw [←HS5.o,St.app_n];have:=hl5;omega
  have HW5:Hid (WQ P i G b k s5 w5):=by rw [←HS5.o];exact h1
  have HB5:Hid (w5.heap[i]?=some (OI {{h with grace:= {h.grace with days:=0}} with grace:= {h.grace with days:=0,bus:=false}} c d n l)):=hf.blk HB4.o (fun e=>e (.inr rfl))
  have HF5:Hid (FN P w w5):=HF4.o.trans (hf.mono (fun q _ e e2=>e (.inl e2)))
  clear h1 hf
  go_wp2_with fail
  first|go_end0|refine bodyPost_ret (results_none rfl _ _ _) rfl ?_
  exact .inr ⟨ts1++([[98,117,115,105,110,101,115,115]]++([]++([[100,97,121,115]]))),(by show daysT h.grace=some _;unfold daysT;rw [HT1.o,if_pos hc2.out]<;>(first|rfl|simp [cat,ok])),rfl,⟨(by rw [←St.app_app,HS1.o,←St.app_app,HS3.o,←St.app_app,HS4.o,HS5.o];exact HW5.o),HB5.o⟩,HF5.o⟩
 have hc2:=hdd hq2
 have hqf:h.grace.bus=false:=by simpa using hq2
 have cb:w1.cell? ⟨i,11,none⟩=some (.bool false):=by rw [←hqf];exact jq0 HB1.o 11
 have HQF:=hdd hqf
 clear hqf
 clear hq2
 go_wp2_with fail
 refine (jq3 HW1.o [[100,97,121,115]] _ rfl _ _ (by decide) (by show s1.n+2*1≤lim;omega)).mono ?_
 rintro e w6 ⟨rfl,h1,hf⟩
 clear cb
 have hl6:([[100,97,121,115]]:List Rs.Bytes).length≤1:=by decide
 obtain ⟨s6,HS6⟩: ∃z,Hid (s1.app [[100,97,121,115]]=z):=⟨_,rfl⟩
 have n6:s6.n≤s1.n+2*1:=by rw [←HS6.o,St.app_n];have:=hl6;omega
 have HW6:Hid (WQ P i G b k s6 w6):=by rw [←HS6.o];exact h1
 have HB6:Hid (w6.heap[i]?=some (OI {h with grace:= {h.grace with days:=0}} c d n l)):=hf.blk HB1.o (fun e=>e (.inr rfl))
 have HF6:Hid (FN P w w6):=HF1.o.trans (hf.mono (fun q _ e e2=>e (.inl e2)))
 clear h1 hf
 go_wp2_with fail
 first|go_end0|refine bodyPost_ret (results_none rfl _ _ _) rfl ?_
 exact .inr ⟨ts1++([[100,97,121,115]]),(by show daysT h.grace=some _;unfold daysT;rw [HT1.o,if_neg hc2.out]<;>(first|rfl|simp [cat,ok])),rfl,⟨(by rw [←St.app_app,HS1.o,HS6.o];exact HW6.o),(by have hb:=HB6.o;simp only [daysLeft];simp only [HQF.o] at hb;exact hb)⟩,HF6.o⟩
theorem spanG_any {G:Nat} {P:Nat→Prop} {b:Nat} {k:Value} {s:St} {w:World} {i:Nat} {h:Rs.Item} {c d n l:Value} (hw:WQ P i G b k s w) (hi: ¬P i) (hG: ∀q,q<G→P q) (hb:w.heap[i]?=some (.cells (Rs.icells h c d n l).toArray 49 (0,0))) (ho:Ok h) (hn:s.n+20≤lim):
  Calls Tryz.prog 70 #[.pointer (some ⟨b,0,none⟩),.pointer (some ⟨i,10,none⟩)] w (Out P (span h.grace) (fun ts w'=>WQ P i G b k (s.app ts) w'∧w'.heap[i]?=some (OI {h with grace:=spanLeft h.grace} c d n l)) w):=by
 have HW0:=hdd hw;have HI:=hdd hi;have HG:=hdd hG;have HB0:=hdd hb;have HO:=hdd ho
 have HF0:Hid (FN P w w):=Fr.refl _ _
 clear hw hi hG hb ho
 go_enter Tryz.func70,Tryz.ntmps70
 by_cases hq1:h.grace.name= []
 ·have hc1:=hdd hq1
  have cn:w.cell? ⟨i,12,none⟩=some (.string ⟨#[]⟩):=(jq0 HB0.o 12).trans (by show some (sv h.grace.name)=_;rw [hq1])
  clear hq1
  go_wp2_with fail
  refine (daysG_any HW0.o HI.o HG.o HB0.o (by constructor<;>first|exact HO.o.name|exact HO.o.of_|exact HO.o.act|exact HO.o.by_|exact HO.o.til|exact HO.o.unit|exact HO.o.sum|exact HO.o.give|exact HO.o.to_|exact HO.o.wn|exact HO.o.gn|exact HO.o.conds|exact HO.o.names|exact Nat.zero_le _) (by omega)).mono ?_
  rintro e w2 (⟨ht,rfl,hf⟩|⟨ts2,ht,rfl,⟨h1,hb⟩,hf⟩)
  ·have ht:daysT h.grace=none:=ht
   exact ⟨rfl,.inl ⟨(by show span h.grace=none;unfold span;rw [if_pos hc1.out,ht]<;>rfl),rfl,HF0.o.trans hf⟩⟩
  have ht:daysT h.grace=some ts2:=ht
  clear cn
  have hl2:ts2.length≤4:=days_le _ ht
  have HT2:=hdd ht
  obtain ⟨s2,HS2⟩: ∃z,Hid (s.app ts2=z):=⟨_,rfl⟩
  have n2:s2.n≤s.n+2*4:=by rw [←HS2.o,St.app_n];have:=hl2;omega
  have HW2:Hid (WQ P i G b k s2 w2):=by rw [←HS2.o];exact h1
  have HB2:Hid (w2.heap[i]?=some (OI {h with grace:=daysLeft h.grace} c d n l)):=hb
  have HF2:Hid (FN P w w2):=HF0.o.trans hf
  clear hb ht
  clear h1 hf
  go_wp2_with fail
  first|go_end0|refine bodyPost_ret (results_none rfl _ _ _) rfl ?_
  exact .inr ⟨ts2,(by show span h.grace=some _;unfold span;rw [if_pos hc1.out,HT2.o]<;>(first|rfl|simp [cat,ok])),rfl,⟨(by rw [HS2.o];exact HW2.o),(by unfold spanLeft;rw [if_pos hc1.out];exact HB2.o)⟩,HF2.o⟩
 have hc1:=hdd hq1
 have cn:w.cell? ⟨i,12,none⟩=some (.string ⟨h.grace.name.toArray⟩):=jq0 HB0.o 12
 have qn:(h.grace.name== [])=false:=by simpa using hq1
 have qn2:(h.grace.name != [])=true:=by simpa using hq1
 clear hq1
 go_wp2_with fail
 refine (name_any HW0.o HI.o HG.o (h.grace.name) HB0.o rfl (by exact HO.o.gn) (by omega)).mono ?_
 rintro e w3 (⟨ht,rfl,hf⟩|⟨ts3,ht,rfl,⟨h1,hb⟩,hf⟩)
 ·have ht:name (h.grace.name)=none:=ht
  exact ⟨rfl,.inl ⟨(by show span h.grace=none;unfold span;rw [if_neg hc1.out,ht]<;>rfl),rfl,HF0.o.trans hf⟩⟩
 have ht:name (h.grace.name)=some ts3:=ht
 clear cn qn qn2
 have hl3:ts3.length≤1:=jx7 _ ht
 have HT3:=hdd ht
 obtain ⟨s3,HS3⟩: ∃z,Hid (s.app ts3=z):=⟨_,rfl⟩
 have n3:s3.n≤s.n+2*1:=by rw [←HS3.o,St.app_n];have:=hl3;omega
 have HW3:Hid (WQ P i G b k s3 w3):=by rw [←HS3.o];exact h1
 have HB3:Hid (w3.heap[i]?=some (OI {h with grace:= {h.grace with name:= []}} c d n l)):=hb
 have HF3:Hid (FN P w w3):=HF0.o.trans hf
 clear hb ht
 clear h1 hf
 go_wp2_with fail
 first|go_end0|refine bodyPost_ret (results_none rfl _ _ _) rfl ?_
 exact .inr ⟨ts3,(by show span h.grace=some _;unfold span;rw [if_neg hc1.out,HT3.o]<;>(first|rfl|simp [cat,ok])),rfl,⟨(by rw [HS3.o];exact HW3.o),(by unfold spanLeft;rw [if_neg hc1.out];exact HB3.o)⟩,HF3.o⟩
theorem jk8 {x:Rs.Span}:LeT (span x) 4:=LeT.ite days_le (jx7.mono (by decide))
end Go.Proofs.YtfficindoecpfaaGreatDoor.Pt
