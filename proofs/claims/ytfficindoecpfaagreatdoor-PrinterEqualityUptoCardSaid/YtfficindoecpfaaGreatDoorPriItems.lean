/-
  The printer's writers of items.
-/
import Derived.Test.YtfficindoecpfaaGreatDoorPkPriB
set_option maxHeartbeats 64000000
set_option maxRecDepth 100000
set_option linter.unusedVariables false
set_option linter.unusedSimpArgs false
namespace Go.Proofs.YtfficindoecpfaaGreatDoor.Pt
open Go.RowKit Mem Vw
open Ic (RowB)
theorem jx8 {s:Rs.Span} (h:s.name.length≤9223372036854775807):(spanLeft s).name.length≤9223372036854775807:=by
 unfold spanLeft
 split
 ·exact h
 ·exact Nat.zero_le _
theorem Ok.circ {h:Rs.Item} (ho:Ok h):Ok (circLeft h):=by
 unfold circLeft
 split
 ·exact ⟨ho.name,ho.of_,ho.act,ho.by_,ho.til,ho.unit,ho.sum,ho.give,ho.to_,ho.wn,ho.gn,fun _ h=>absurd h List.not_mem_nil,ho.names⟩
 ·exact ⟨ho.name,ho.of_,ho.act,Nat.zero_le _,Nat.zero_le _,ho.unit,ho.sum,ho.give,ho.to_,ho.wn,ho.gn,fun _ h=>absurd h List.not_mem_nil,ho.names⟩
theorem jj6 (h:Rs.Item):cons (circLeft h)=cons h:=by
 unfold circLeft
 split<;>rfl
def actLeft (h:Rs.Item):Rs.Item:=if h.word=1 then (if h.unit= [] then {h with name:= [],of_:= [],to_:= [],word:=0} else {amountLeft h with name:= [],of_:= [],to_:= [],word:=0}) else {h with name:= [],of_:= [],give:= [],to_:= [],word:=0}
def unitLeft (h:Rs.Item):Rs.Item:=if h.unit= [] then {h with name:= [],word:=0} else {amountLeft h with name:= [],word:=0}
theorem party_any {G:Nat} {P:Nat→Prop} {b:Nat} {k:Value} {s:St} {w:World} {i:Nat} {h:Rs.Item} {c d n l:Value} (hw:WQ P i G b k s w) (hi: ¬P i) (hG: ∀q,q<G→P q) (hb:w.heap[i]?=some (.cells (Rs.icells h c d n l).toArray 49 (0,0))) (ho:Ok h) (hn:s.n+40≤lim):
  Calls Tryz.prog 78 #[.pointer (some ⟨b,0,none⟩),.pointer (some ⟨i,0,none⟩)] w (Out P (party h) (fun ts w'=>WQ P i G b k (s.app ts) w'∧w'.heap[i]?=some (OI {h with name:= []} c d n l)) w):=by
 have HW0:=hdd hw;have HI:=hdd hi;have HG:=hdd hG;have HB0:=hdd hb;have HO:=hdd ho
 have HF0:Hid (FN P w w):=Fr.refl _ _
 clear hw hi hG hb ho
 go_enter Tryz.func78,Tryz.ntmps78
 go_wp2_with fail
 refine (jj1 HW0.o HI.o HG.o HB0.o (by cases HO.o;constructor<;>first|assumption|(apply jx8;assumption)|exact Nat.zero_le _) (by omega) [112,97,114,116,121] (by decide)).mono ?_
 rintro e w1 (⟨ht,rfl,hf⟩|⟨ts1,ht,rfl,⟨h1,hb⟩,hf⟩)
 ·have ht:begin_ [112,97,114,116,121] h=none:=(by exact ht)
  exact ⟨rfl,.inl ⟨(by show party h=none;unfold party;rw [ht]<;>rfl),rfl,HF0.o.trans hf⟩⟩
 have ht:begin_ [112,97,114,116,121] h=some ts1:=(by exact ht)
 have hl1:ts1.length≤2:=jz8 _ ht
 have HT1:=hdd ht
 obtain ⟨s1,HS1⟩: ∃z,Hid (s.app ts1=z):=⟨_,rfl⟩
 have n1:s1.n≤s.n+2*2:=by rw [←HS1.o,St.app_n];have:=hl1;omega
 have HW1:Hid (WQ P i G b k s1 w1):=by rw [←HS1.o];exact h1
 have HB1:Hid (w1.heap[i]?=some (OI {h with name:= []} c d n l)):=hb
 have HF1:Hid (FN P w w1):=HF0.o.trans hf
 clear hb ht
 clear h1 hf
 go_wp2_with fail
 refine (jq3 HW1.o [[59]] _ rfl _ _ (by decide) (by show s1.n+2*1≤lim;omega)).mono ?_
 rintro e w2 ⟨rfl,h1,hf⟩
 have hl2:([[59]]:List Rs.Bytes).length≤1:=by decide
 obtain ⟨s2,HS2⟩: ∃z,Hid (s1.app [[59]]=z):=⟨_,rfl⟩
 have n2:s2.n≤s1.n+2*1:=by rw [←HS2.o,St.app_n];have:=hl2;omega
 have HW2:Hid (WQ P i G b k s2 w2):=by rw [←HS2.o];exact h1
 have HB2:Hid (w2.heap[i]?=some (OI {h with name:= []} c d n l)):=hf.blk HB1.o (fun e=>e (.inr rfl))
 have HF2:Hid (FN P w w2):=HF1.o.trans (hf.mono (fun q _ e e2=>e (.inl e2)))
 clear h1 hf
 go_wp2_with fail
 first|go_end0|refine bodyPost_ret (results_none rfl _ _ _) rfl ?_
 exact .inr ⟨ts1++([[59]]),(by show party h=some _;unfold party;rw [HT1.o]<;>(first|rfl|simp [cat,ok,natureT,semi])),rfl,⟨(by rw [←St.app_app,HS1.o,HS2.o];exact HW2.o),HB2.o⟩,HF2.o⟩
theorem role_any {G:Nat} {P:Nat→Prop} {b:Nat} {k:Value} {s:St} {w:World} {i:Nat} {h:Rs.Item} {c d n l:Value} (hw:WQ P i G b k s w) (hi: ¬P i) (hG: ∀q,q<G→P q) (hb:w.heap[i]?=some (.cells (Rs.icells h c d n l).toArray 49 (0,0))) (ho:Ok h) (hn:s.n+40≤lim):
  Calls Tryz.prog 79 #[.pointer (some ⟨b,0,none⟩),.pointer (some ⟨i,0,none⟩)] w (Out P (role h) (fun ts w'=>WQ P i G b k (s.app ts) w'∧w'.heap[i]?=some (OI {h with name:= [],of_:= []} c d n l)) w):=by
 have HW0:=hdd hw;have HI:=hdd hi;have HG:=hdd hG;have HB0:=hdd hb;have HO:=hdd ho
 have HF0:Hid (FN P w w):=Fr.refl _ _
 clear hw hi hG hb ho
 go_enter Tryz.func79,Tryz.ntmps79
 go_wp2_with fail
 refine (jj1 HW0.o HI.o HG.o HB0.o (by cases HO.o;constructor<;>first|assumption|(apply jx8;assumption)|exact Nat.zero_le _) (by omega) [114,111,108,101] (by decide)).mono ?_
 rintro e w1 (⟨ht,rfl,hf⟩|⟨ts1,ht,rfl,⟨h1,hb⟩,hf⟩)
 ·have ht:begin_ [114,111,108,101] h=none:=(by exact ht)
  exact ⟨rfl,.inl ⟨(by show role h=none;unfold role;rw [ht]<;>rfl),rfl,HF0.o.trans hf⟩⟩
 have ht:begin_ [114,111,108,101] h=some ts1:=(by exact ht)
 have hl1:ts1.length≤2:=jz8 _ ht
 have HT1:=hdd ht
 obtain ⟨s1,HS1⟩: ∃z,Hid (s.app ts1=z):=⟨_,rfl⟩
 have n1:s1.n≤s.n+2*2:=by rw [←HS1.o,St.app_n];have:=hl1;omega
 have HW1:Hid (WQ P i G b k s1 w1):=by rw [←HS1.o];exact h1
 have HB1:Hid (w1.heap[i]?=some (OI {h with name:= []} c d n l)):=hb
 have HF1:Hid (FN P w w1):=HF0.o.trans hf
 clear hb ht
 clear h1 hf
 go_wp2_with fail
 refine (jq3 HW1.o [[111,102]] _ rfl _ _ (by decide) (by show s1.n+2*1≤lim;omega)).mono ?_
 rintro e w2 ⟨rfl,h1,hf⟩
 have hl2:([[111,102]]:List Rs.Bytes).length≤1:=by decide
 obtain ⟨s2,HS2⟩: ∃z,Hid (s1.app [[111,102]]=z):=⟨_,rfl⟩
 have n2:s2.n≤s1.n+2*1:=by rw [←HS2.o,St.app_n];have:=hl2;omega
 have HW2:Hid (WQ P i G b k s2 w2):=by rw [←HS2.o];exact h1
 have HB2:Hid (w2.heap[i]?=some (OI {h with name:= []} c d n l)):=hf.blk HB1.o (fun e=>e (.inr rfl))
 have HF2:Hid (FN P w w2):=HF1.o.trans (hf.mono (fun q _ e e2=>e (.inl e2)))
 clear h1 hf
 go_wp2_with fail
 refine (name_any HW2.o HI.o HG.o (h.of_) HB2.o rfl (by exact HO.o.of_) (by omega)).mono ?_
 rintro e w3 (⟨ht,rfl,hf⟩|⟨ts3,ht,rfl,⟨h1,hb⟩,hf⟩)
 ·have ht:name (h.of_)=none:=(by exact ht)
  exact ⟨rfl,.inl ⟨(by show role h=none;unfold role;rw [HT1.o,ht]<;>rfl),rfl,HF2.o.trans hf⟩⟩
 have ht:name (h.of_)=some ts3:=(by exact ht)
 have hl3:ts3.length≤1:=jx7 _ ht
 have HT3:=hdd ht
 obtain ⟨s3,HS3⟩: ∃z,Hid (s2.app ts3=z):=⟨_,rfl⟩
 have n3:s3.n≤s2.n+2*1:=by rw [←HS3.o,St.app_n];have:=hl3;omega
 have HW3:Hid (WQ P i G b k s3 w3):=by rw [←HS3.o];exact h1
 have HB3:Hid (w3.heap[i]?=some (OI {{h with name:= []} with name:= [],of_:= []} c d n l)):=hb
 have HF3:Hid (FN P w w3):=HF2.o.trans hf
 clear hb ht
 clear h1 hf
 go_wp2_with fail
 refine (jq3 HW3.o [[59]] _ rfl _ _ (by decide) (by show s3.n+2*1≤lim;omega)).mono ?_
 rintro e w4 ⟨rfl,h1,hf⟩
 have hl4:([[59]]:List Rs.Bytes).length≤1:=by decide
 obtain ⟨s4,HS4⟩: ∃z,Hid (s3.app [[59]]=z):=⟨_,rfl⟩
 have n4:s4.n≤s3.n+2*1:=by rw [←HS4.o,St.app_n];have:=hl4;omega
 have HW4:Hid (WQ P i G b k s4 w4):=by rw [←HS4.o];exact h1
 have HB4:Hid (w4.heap[i]?=some (OI {{h with name:= []} with name:= [],of_:= []} c d n l)):=hf.blk HB3.o (fun e=>e (.inr rfl))
 have HF4:Hid (FN P w w4):=HF3.o.trans (hf.mono (fun q _ e e2=>e (.inl e2)))
 clear h1 hf
 go_wp2_with fail
 first|go_end0|refine bodyPost_ret (results_none rfl _ _ _) rfl ?_
 exact .inr ⟨ts1++([[111,102]]++(ts3++([[59]]))),(by show role h=some _;unfold role;rw [HT1.o,HT3.o]<;>(first|rfl|simp [cat,ok,natureT,semi])),rfl,⟨(by rw [←St.app_app,HS1.o,←St.app_app,HS2.o,←St.app_app,HS3.o,HS4.o];exact HW4.o),HB4.o⟩,HF4.o⟩
theorem spanDef_any {G:Nat} {P:Nat→Prop} {b:Nat} {k:Value} {s:St} {w:World} {i:Nat} {h:Rs.Item} {c d n l:Value} (hw:WQ P i G b k s w) (hi: ¬P i) (hG: ∀q,q<G→P q) (hb:w.heap[i]?=some (.cells (Rs.icells h c d n l).toArray 49 (0,0))) (ho:Ok h) (hn:s.n+60≤lim):
  Calls Tryz.prog 83 #[.pointer (some ⟨b,0,none⟩),.pointer (some ⟨i,0,none⟩)] w (Out P (spanDef h) (fun ts w'=>WQ P i G b k (s.app ts) w'∧w'.heap[i]?=some (OI {h with name:= [],within:=daysLeft h.within} c d n l)) w):=by
 have HW0:=hdd hw;have HI:=hdd hi;have HG:=hdd hG;have HB0:=hdd hb;have HO:=hdd ho
 have HF0:Hid (FN P w w):=Fr.refl _ _
 clear hw hi hG hb ho
 go_enter Tryz.func83,Tryz.ntmps83
 go_wp2_with fail
 refine (jj1 HW0.o HI.o HG.o HB0.o (by cases HO.o;constructor<;>first|assumption|(apply jx8;assumption)|exact Nat.zero_le _) (by omega) [115,112,97,110] (by decide)).mono ?_
 rintro e w1 (⟨ht,rfl,hf⟩|⟨ts1,ht,rfl,⟨h1,hb⟩,hf⟩)
 ·have ht:begin_ [115,112,97,110] h=none:=(by exact ht)
  exact ⟨rfl,.inl ⟨(by show spanDef h=none;unfold spanDef;rw [ht]<;>rfl),rfl,HF0.o.trans hf⟩⟩
 have ht:begin_ [115,112,97,110] h=some ts1:=(by exact ht)
 have hl1:ts1.length≤2:=jz8 _ ht
 have HT1:=hdd ht
 obtain ⟨s1,HS1⟩: ∃z,Hid (s.app ts1=z):=⟨_,rfl⟩
 have n1:s1.n≤s.n+2*2:=by rw [←HS1.o,St.app_n];have:=hl1;omega
 have HW1:Hid (WQ P i G b k s1 w1):=by rw [←HS1.o];exact h1
 have HB1:Hid (w1.heap[i]?=some (OI {h with name:= []} c d n l)):=hb
 have HF1:Hid (FN P w w1):=HF0.o.trans hf
 clear hb ht
 clear h1 hf
 go_wp2_with fail
 refine (jq3 HW1.o [[61]] _ rfl _ _ (by decide) (by show s1.n+2*1≤lim;omega)).mono ?_
 rintro e w2 ⟨rfl,h1,hf⟩
 have hl2:([[61]]:List Rs.Bytes).length≤1:=by decide
 obtain ⟨s2,HS2⟩: ∃z,Hid (s1.app [[61]]=z):=⟨_,rfl⟩
 have n2:s2.n≤s1.n+2*1:=by rw [←HS2.o,St.app_n];have:=hl2;omega
 have HW2:Hid (WQ P i G b k s2 w2):=by rw [←HS2.o];exact h1
 have HB2:Hid (w2.heap[i]?=some (OI {h with name:= []} c d n l)):=hf.blk HB1.o (fun e=>e (.inr rfl))
 have HF2:Hid (FN P w w2):=HF1.o.trans (hf.mono (fun q _ e e2=>e (.inl e2)))
 clear h1 hf
 go_wp2_with fail
 refine (daysW_any HW2.o HI.o HG.o HB2.o (by cases HO.o;constructor<;>first|assumption|(apply jx8;assumption)|exact Nat.zero_le _) (by omega)).mono ?_
 rintro e w3 (⟨ht,rfl,hf⟩|⟨ts3,ht,rfl,⟨h1,hb⟩,hf⟩)
 ·have ht:daysT h.within=none:=(by exact ht)
  exact ⟨rfl,.inl ⟨(by show spanDef h=none;unfold spanDef;rw [HT1.o,ht]<;>rfl),rfl,HF2.o.trans hf⟩⟩
 have ht:daysT h.within=some ts3:=(by exact ht)
 have hl3:ts3.length≤4:=days_le _ ht
 have HT3:=hdd ht
 obtain ⟨s3,HS3⟩: ∃z,Hid (s2.app ts3=z):=⟨_,rfl⟩
 have n3:s3.n≤s2.n+2*4:=by rw [←HS3.o,St.app_n];have:=hl3;omega
 have HW3:Hid (WQ P i G b k s3 w3):=by rw [←HS3.o];exact h1
 have HB3:Hid (w3.heap[i]?=some (OI {{h with name:= []} with within:=daysLeft h.within} c d n l)):=hb
 have HF3:Hid (FN P w w3):=HF2.o.trans hf
 clear hb ht
 clear h1 hf
 go_wp2_with fail
 refine (jq3 HW3.o [[59]] _ rfl _ _ (by decide) (by show s3.n+2*1≤lim;omega)).mono ?_
 rintro e w4 ⟨rfl,h1,hf⟩
 have hl4:([[59]]:List Rs.Bytes).length≤1:=by decide
 obtain ⟨s4,HS4⟩: ∃z,Hid (s3.app [[59]]=z):=⟨_,rfl⟩
 have n4:s4.n≤s3.n+2*1:=by rw [←HS4.o,St.app_n];have:=hl4;omega
 have HW4:Hid (WQ P i G b k s4 w4):=by rw [←HS4.o];exact h1
 have HB4:Hid (w4.heap[i]?=some (OI {{h with name:= []} with within:=daysLeft h.within} c d n l)):=hf.blk HB3.o (fun e=>e (.inr rfl))
 have HF4:Hid (FN P w w4):=HF3.o.trans (hf.mono (fun q _ e e2=>e (.inl e2)))
 clear h1 hf
 go_wp2_with fail
 first|go_end0|refine bodyPost_ret (results_none rfl _ _ _) rfl ?_
 exact .inr ⟨ts1++([[61]]++(ts3++([[59]]))),(by show spanDef h=some _;unfold spanDef;rw [HT1.o,HT3.o]<;>(first|rfl|simp [cat,ok,natureT,semi])),rfl,⟨(by rw [←St.app_app,HS1.o,←St.app_app,HS2.o,←St.app_app,HS3.o,HS4.o];exact HW4.o),HB4.o⟩,HF4.o⟩
theorem sumDef_any {G:Nat} {P:Nat→Prop} {b:Nat} {k:Value} {s:St} {w:World} {i:Nat} {h:Rs.Item} {c d n l:Value} (hw:WQ P i G b k s w) (hi: ¬P i) (hG: ∀q,q<G→P q) (hb:w.heap[i]?=some (.cells (Rs.icells h c d n l).toArray 49 (0,0))) (ho:Ok h) (hn:s.n+60≤lim):
  Calls Tryz.prog 84 #[.pointer (some ⟨b,0,none⟩),.pointer (some ⟨i,0,none⟩)] w (Out P (sumDef h) (fun ts w'=>WQ P i G b k (s.app ts) w'∧w'.heap[i]?=some (OI {amountLeft h with name:= []} c d n l)) w):=by
 have HW0:=hdd hw;have HI:=hdd hi;have HG:=hdd hG;have HB0:=hdd hb;have HO:=hdd ho
 have HF0:Hid (FN P w w):=Fr.refl _ _
 clear hw hi hG hb ho
 go_enter Tryz.func84,Tryz.ntmps84
 go_wp2_with fail
 refine (jj1 HW0.o HI.o HG.o HB0.o (by cases HO.o;constructor<;>first|assumption|(apply jx8;assumption)|exact Nat.zero_le _) (by omega) [115,117,109] (by decide)).mono ?_
 rintro e w1 (⟨ht,rfl,hf⟩|⟨ts1,ht,rfl,⟨h1,hb⟩,hf⟩)
 ·have ht:begin_ [115,117,109] h=none:=(by exact ht)
  exact ⟨rfl,.inl ⟨(by show sumDef h=none;unfold sumDef;rw [ht]<;>rfl),rfl,HF0.o.trans hf⟩⟩
 have ht:begin_ [115,117,109] h=some ts1:=(by exact ht)
 have hl1:ts1.length≤2:=jz8 _ ht
 have HT1:=hdd ht
 obtain ⟨s1,HS1⟩: ∃z,Hid (s.app ts1=z):=⟨_,rfl⟩
 have n1:s1.n≤s.n+2*2:=by rw [←HS1.o,St.app_n];have:=hl1;omega
 have HW1:Hid (WQ P i G b k s1 w1):=by rw [←HS1.o];exact h1
 have HB1:Hid (w1.heap[i]?=some (OI {h with name:= []} c d n l)):=hb
 have HF1:Hid (FN P w w1):=HF0.o.trans hf
 clear hb ht
 clear h1 hf
 go_wp2_with fail
 refine (jq3 HW1.o [[61]] _ rfl _ _ (by decide) (by show s1.n+2*1≤lim;omega)).mono ?_
 rintro e w2 ⟨rfl,h1,hf⟩
 have hl2:([[61]]:List Rs.Bytes).length≤1:=by decide
 obtain ⟨s2,HS2⟩: ∃z,Hid (s1.app [[61]]=z):=⟨_,rfl⟩
 have n2:s2.n≤s1.n+2*1:=by rw [←HS2.o,St.app_n];have:=hl2;omega
 have HW2:Hid (WQ P i G b k s2 w2):=by rw [←HS2.o];exact h1
 have HB2:Hid (w2.heap[i]?=some (OI {h with name:= []} c d n l)):=hf.blk HB1.o (fun e=>e (.inr rfl))
 have HF2:Hid (FN P w w2):=HF1.o.trans (hf.mono (fun q _ e e2=>e (.inl e2)))
 clear h1 hf
 go_wp2_with fail
 refine (kq5 HW2.o HI.o HG.o HB2.o (by cases HO.o;constructor<;>first|assumption|(apply jx8;assumption)|exact Nat.zero_le _) (by omega)).mono ?_
 rintro e w3 (⟨ht,rfl,hf⟩|⟨ts3,ht,rfl,⟨h1,hb⟩,hf⟩)
 ·have ht:amount h.num h.unit=none:=(by exact ht)
  exact ⟨rfl,.inl ⟨(by show sumDef h=none;unfold sumDef;rw [HT1.o,ht]<;>rfl),rfl,HF2.o.trans hf⟩⟩
 have ht:amount h.num h.unit=some ts3:=(by exact ht)
 have hl3:ts3.length≤4:=jj5 _ ht
 have HT3:=hdd ht
 obtain ⟨s3,HS3⟩: ∃z,Hid (s2.app ts3=z):=⟨_,rfl⟩
 have n3:s3.n≤s2.n+2*4:=by rw [←HS3.o,St.app_n];have:=hl3;omega
 have HW3:Hid (WQ P i G b k s3 w3):=by rw [←HS3.o];exact h1
 have HB3:Hid (w3.heap[i]?=some (.cells ((Rs.icells (amountLeft ({h with name:= []}):Rs.Item) c d n l).toArray) 49 (0,0))):=hb
 have HF3:Hid (FN P w w3):=HF2.o.trans hf
 clear hb ht
 clear h1 hf
 go_wp2_with fail
 refine (jq3 HW3.o [[59]] _ rfl _ _ (by decide) (by show s3.n+2*1≤lim;omega)).mono ?_
 rintro e w4 ⟨rfl,h1,hf⟩
 have hl4:([[59]]:List Rs.Bytes).length≤1:=by decide
 obtain ⟨s4,HS4⟩: ∃z,Hid (s3.app [[59]]=z):=⟨_,rfl⟩
 have n4:s4.n≤s3.n+2*1:=by rw [←HS4.o,St.app_n];have:=hl4;omega
 have HW4:Hid (WQ P i G b k s4 w4):=by rw [←HS4.o];exact h1
 have HB4:Hid (w4.heap[i]?=some (.cells ((Rs.icells (amountLeft ({h with name:= []}):Rs.Item) c d n l).toArray) 49 (0,0))):=hf.blk HB3.o (fun e=>e (.inr rfl))
 have HF4:Hid (FN P w w4):=HF3.o.trans (hf.mono (fun q _ e e2=>e (.inl e2)))
 clear h1 hf
 go_wp2_with fail
 first|go_end0|refine bodyPost_ret (results_none rfl _ _ _) rfl ?_
 exact .inr ⟨ts1++([[61]]++(ts3++([[59]]))),(by show sumDef h=some _;unfold sumDef;rw [HT1.o,HT3.o]<;>(first|rfl|simp [cat,ok,natureT,semi])),rfl,⟨(by rw [←St.app_app,HS1.o,←St.app_app,HS2.o,←St.app_app,HS3.o,HS4.o];exact HW4.o),HB4.o⟩,HF4.o⟩
theorem unit_any {G:Nat} {P:Nat→Prop} {b:Nat} {k:Value} {s:St} {w:World} {i:Nat} {h:Rs.Item} {c d n l:Value} (hw:WQ P i G b k s w) (hi: ¬P i) (hG: ∀q,q<G→P q) (hb:w.heap[i]?=some (.cells (Rs.icells h c d n l).toArray 49 (0,0))) (ho:Ok h) (hn:s.n+80≤lim):
  Calls Tryz.prog 80 #[.pointer (some ⟨b,0,none⟩),.pointer (some ⟨i,0,none⟩)] w (Out P (unit h) (fun ts w'=>WQ P i G b k (s.app ts) w'∧w'.heap[i]?=some (OI (unitLeft h) c d n l)) w):=by
 have HW0:=hdd hw;have HI:=hdd hi;have HG:=hdd hG;have HB0:=hdd hb;have HO:=hdd ho
 have HF0:Hid (FN P w w):=Fr.refl _ _
 clear hw hi hG hb ho
 go_enter Tryz.func80,Tryz.ntmps80
 go_wp2_with fail
 refine (jj1 HW0.o HI.o HG.o HB0.o (by cases HO.o;constructor<;>first|assumption|(apply jx8;assumption)|exact Nat.zero_le _) (by omega) [117,110,105,116] (by decide)).mono ?_
 rintro e w1 (⟨ht,rfl,hf⟩|⟨ts1,ht,rfl,⟨h1,hb⟩,hf⟩)
 ·have ht:begin_ [117,110,105,116] h=none:=(by exact ht)
  exact ⟨rfl,.inl ⟨(by show unit h=none;unfold unit;rw [ht]<;>rfl),rfl,HF0.o.trans hf⟩⟩
 have ht:begin_ [117,110,105,116] h=some ts1:=(by exact ht)
 have hl1:ts1.length≤2:=jz8 _ ht
 have HT1:=hdd ht
 obtain ⟨s1,HS1⟩: ∃z,Hid (s.app ts1=z):=⟨_,rfl⟩
 have n1:s1.n≤s.n+2*2:=by rw [←HS1.o,St.app_n];have:=hl1;omega
 have HW1:Hid (WQ P i G b k s1 w1):=by rw [←HS1.o];exact h1
 have HB1:Hid (w1.heap[i]?=some (OI {h with name:= []} c d n l)):=hb
 have HF1:Hid (FN P w w1):=HF0.o.trans hf
 clear hb ht
 clear h1 hf
 by_cases hq2:h.word=1
 ·have hc2:=hdd hq2
  have cb5:w1.cell? ⟨i,5,none⟩=some (.int .i64 1):=(jq0 HB1.o 5).trans (by show some (Value.int .i64 h.word)=_;rw [hq2])
  have HK1:=hdd hq2
  clear hq2
  go_wp2_with fail
  refine (jq3 HW1.o [[103,111,111,100,115]] _ rfl _ _ (by decide) (by show s1.n+2*1≤lim;omega)).mono ?_
  rintro e w3 ⟨rfl,h1,hf⟩
  clear cb5
  have hl3:([[103,111,111,100,115]]:List Rs.Bytes).length≤1:=by decide
  obtain ⟨s3,HS3⟩: ∃z,Hid (s1.app [[103,111,111,100,115]]=z):=⟨_,rfl⟩
  have n3:s3.n≤s1.n+2*1:=by rw [←HS3.o,St.app_n];have:=hl3;omega
  have HW3:Hid (WQ P i G b k s3 w3):=by rw [←HS3.o];exact h1
  have HB3:Hid (w3.heap[i]?=some (OI {h with name:= []} c d n l)):=hf.blk HB1.o (fun e=>e (.inr rfl))
  have HF3:Hid (FN P w w3):=HF1.o.trans (hf.mono (fun q _ e e2=>e (.inl e2)))
  clear h1 hf
  have c4:w3.cell? ⟨i,5,none⟩=some (.int .i64 h.word):=jq0 HB3.o _
  have f4:w3.frozen? ⟨i,5,none⟩=false:=jq1 HB3.o _
  obtain ⟨w4,hw4⟩: ∃u,w3.setCell ⟨i,5,none⟩ (.int .i64 0)=u:=⟨_,rfl⟩
  have hf:Fr (fun q=>q=i) w3 w4:=by rw [←hw4];exact (Fr.refl (fun q=>q=i) w3).setb 5 _
  have HB4:Hid (w4.heap[i]?=some (OI {{h with name:= []} with name:= [],word:=0} c d n l)):=by rw [←hw4];exact jq9 HB3.o 5 _
  have HW4:Hid (WQ P i G b k s3 w4):=HW3.o.fr hf (fun q e=>⟨.inr e,by have e:q=i:=e;subst e;exact Nat.le_of_not_lt fun h=>HI.o (HG.o _ h)⟩)
  have HF4:Hid (FN P w w4):=HF3.o.trans (hf.mono (fun q _ e e2=>by have e:q=i:=e;subst e;exact HI.o e2))
  clear hf
  have s4_:True:=trivial
  obtain ⟨s4,HS4⟩: ∃z,Hid (s3.app []=z):=⟨_,rfl⟩
  have n4:s4.n≤s3.n:=by rw [←HS4.o];exact Nat.le_refl _
  have HW4:Hid (WQ P i G b k s4 w4):=by rw [←HS4.o];exact HW4.o
  by_cases hq5:h.unit= []
  ·have hc5:=hdd hq5
   have cb18:w4.cell? ⟨i,18,none⟩=some (.string ⟨#[]⟩):=(jq0 HB4.o 18).trans (by show some (sv h.unit)=_;rw [hq5])
   have HUN:=hdd hq5
   clear hq5
   go_wp2_with fail
   refine (jq3 HW4.o [[59]] _ rfl _ _ (by decide) (by show s4.n+2*1≤lim;omega)).mono ?_
   rintro e w6 ⟨rfl,h1,hf⟩
   clear c4 f4 hw4 s4_ cb18
   have hl6:([[59]]:List Rs.Bytes).length≤1:=by decide
   obtain ⟨s6,HS6⟩: ∃z,Hid (s4.app [[59]]=z):=⟨_,rfl⟩
   have n6:s6.n≤s4.n+2*1:=by rw [←HS6.o,St.app_n];have:=hl6;omega
   have HW6:Hid (WQ P i G b k s6 w6):=by rw [←HS6.o];exact h1
   have HB6:Hid (w6.heap[i]?=some (OI {{h with name:= []} with name:= [],word:=0} c d n l)):=hf.blk HB4.o (fun e=>e (.inr rfl))
   have HF6:Hid (FN P w w6):=HF4.o.trans (hf.mono (fun q _ e e2=>e (.inl e2)))
   clear h1 hf
   go_wp2_with fail
   first|go_end0|refine bodyPost_ret (results_none rfl _ _ _) rfl ?_
   exact .inr ⟨ts1++([[103,111,111,100,115]]++([]++([[59]]))),(by show unit h=some _;unfold unit;rw [HT1.o,(show unitWord h.word=ok [[103,111,111,100,115]] from if_pos hc2.out),if_pos hc5.out]<;>(first|rfl|simp [cat,ok,natureT,semi])),rfl,⟨(by rw [←St.app_app,HS1.o,←St.app_app,HS3.o,←St.app_app,HS4.o,HS6.o];exact HW6.o),(by unfold unitLeft;rw [if_pos hc5.out];exact HB6.o)⟩,HF6.o⟩
  have hc5:=hdd hq5
  have cb18:w4.cell? ⟨i,18,none⟩=some (.string ⟨h.unit.toArray⟩):=jq0 HB4.o 18
  have qb18:(h.unit== [])=false:=by simpa using hq5
  have qc18:(h.unit != [])=true:=by simpa using hq5
  have HUN:=hdd hq5
  clear hq5
  go_wp2_with fail
  refine (jq3 HW4.o [[61]] _ rfl _ _ (by decide) (by show s4.n+2*1≤lim;omega)).mono ?_
  rintro e w7 ⟨rfl,h1,hf⟩
  clear c4 f4 hw4 s4_ cb18 qb18 qc18
  have hl7:([[61]]:List Rs.Bytes).length≤1:=by decide
  obtain ⟨s7,HS7⟩: ∃z,Hid (s4.app [[61]]=z):=⟨_,rfl⟩
  have n7:s7.n≤s4.n+2*1:=by rw [←HS7.o,St.app_n];have:=hl7;omega
  have HW7:Hid (WQ P i G b k s7 w7):=by rw [←HS7.o];exact h1
  have HB7:Hid (w7.heap[i]?=some (OI {{h with name:= []} with name:= [],word:=0} c d n l)):=hf.blk HB4.o (fun e=>e (.inr rfl))
  have HF7:Hid (FN P w w7):=HF4.o.trans (hf.mono (fun q _ e e2=>e (.inl e2)))
  clear h1 hf
  go_wp2_with fail
  refine (kq5 HW7.o HI.o HG.o HB7.o (by cases HO.o;constructor<;>first|assumption|(apply jx8;assumption)|exact Nat.zero_le _) (by omega)).mono ?_
  rintro e w8 (⟨ht,rfl,hf⟩|⟨ts8,ht,rfl,⟨h1,hb⟩,hf⟩)
  ·have ht:amount h.num h.unit=none:=(by exact ht)
   exact ⟨rfl,.inl ⟨(by show unit h=none;unfold unit;rw [HT1.o,(show unitWord h.word=ok [[103,111,111,100,115]] from if_pos hc2.out),if_neg hc5.out,ht]<;>rfl),rfl,HF7.o.trans hf⟩⟩
  have ht:amount h.num h.unit=some ts8:=(by exact ht)
  have hl8:ts8.length≤4:=jj5 _ ht
  have HT8:=hdd ht
  obtain ⟨s8,HS8⟩: ∃z,Hid (s7.app ts8=z):=⟨_,rfl⟩
  have n8:s8.n≤s7.n+2*4:=by rw [←HS8.o,St.app_n];have:=hl8;omega
  have HW8:Hid (WQ P i G b k s8 w8):=by rw [←HS8.o];exact h1
  have HB8:Hid (w8.heap[i]?=some (.cells ((Rs.icells (amountLeft ({{h with name:= []} with name:= [],word:=0}):Rs.Item) c d n l).toArray) 49 (0,0))):=hb
  have HF8:Hid (FN P w w8):=HF7.o.trans hf
  clear hb ht
  clear h1 hf
  go_wp2_with fail
  refine (jq3 HW8.o [[59]] _ rfl _ _ (by decide) (by show s8.n+2*1≤lim;omega)).mono ?_
  rintro e w9 ⟨rfl,h1,hf⟩
  have hl9:([[59]]:List Rs.Bytes).length≤1:=by decide
  obtain ⟨s9,HS9⟩: ∃z,Hid (s8.app [[59]]=z):=⟨_,rfl⟩
  have n9:s9.n≤s8.n+2*1:=by rw [←HS9.o,St.app_n];have:=hl9;omega
  have HW9:Hid (WQ P i G b k s9 w9):=by rw [←HS9.o];exact h1
  have HB9:Hid (w9.heap[i]?=some (.cells ((Rs.icells (amountLeft ({{h with name:= []} with name:= [],word:=0}):Rs.Item) c d n l).toArray) 49 (0,0))):=hf.blk HB8.o (fun e=>e (.inr rfl))
  have HF9:Hid (FN P w w9):=HF8.o.trans (hf.mono (fun q _ e e2=>e (.inl e2)))
  clear h1 hf
  go_wp2_with fail
  first|go_end0|refine bodyPost_ret (results_none rfl _ _ _) rfl ?_
  exact .inr ⟨ts1++([[103,111,111,100,115]]++([]++([[61]]++(ts8++([[59]]))))),(by show unit h=some _;unfold unit;rw [HT1.o,(show unitWord h.word=ok [[103,111,111,100,115]] from if_pos hc2.out),if_neg hc5.out,HT8.o]<;>(first|rfl|simp [cat,ok,natureT,semi])),rfl,⟨(by rw [←St.app_app,HS1.o,←St.app_app,HS3.o,←St.app_app,HS4.o,←St.app_app,HS7.o,←St.app_app,HS8.o,HS9.o];exact HW9.o),(by unfold unitLeft;rw [if_neg hc5.out];exact HB9.o)⟩,HF9.o⟩
 have hc2:=hdd hq2
 have cb5:w1.cell? ⟨i,5,none⟩=some (.int .i64 h.word):=jq0 HB1.o 5
 have qa1:(h.word==1)=false:=beq_eq_false_iff_ne.2 hq2
 have HK1:=hdd hq2
 clear hq2
 by_cases hq10:h.word=2
 ·have hc10:=hdd hq10
  have qa2:(h.word==2)=true:=beq_iff_eq.2 hq10
  have HK2:=hdd hq10
  clear hq10
  go_wp2_with fail
  refine (jq3 HW1.o [[109,111,110,101,121]] _ rfl _ _ (by decide) (by show s1.n+2*1≤lim;omega)).mono ?_
  rintro e w11 ⟨rfl,h1,hf⟩
  clear cb5 qa1 qa2
  have hl11:([[109,111,110,101,121]]:List Rs.Bytes).length≤1:=by decide
  obtain ⟨s11,HS11⟩: ∃z,Hid (s1.app [[109,111,110,101,121]]=z):=⟨_,rfl⟩
  have n11:s11.n≤s1.n+2*1:=by rw [←HS11.o,St.app_n];have:=hl11;omega
  have HW11:Hid (WQ P i G b k s11 w11):=by rw [←HS11.o];exact h1
  have HB11:Hid (w11.heap[i]?=some (OI {h with name:= []} c d n l)):=hf.blk HB1.o (fun e=>e (.inr rfl))
  have HF11:Hid (FN P w w11):=HF1.o.trans (hf.mono (fun q _ e e2=>e (.inl e2)))
  clear h1 hf
  have c12:w11.cell? ⟨i,5,none⟩=some (.int .i64 h.word):=jq0 HB11.o _
  have f12:w11.frozen? ⟨i,5,none⟩=false:=jq1 HB11.o _
  obtain ⟨w12,hw12⟩: ∃u,w11.setCell ⟨i,5,none⟩ (.int .i64 0)=u:=⟨_,rfl⟩
  have hf:Fr (fun q=>q=i) w11 w12:=by rw [←hw12];exact (Fr.refl (fun q=>q=i) w11).setb 5 _
  have HB12:Hid (w12.heap[i]?=some (OI {{h with name:= []} with name:= [],word:=0} c d n l)):=by rw [←hw12];exact jq9 HB11.o 5 _
  have HW12:Hid (WQ P i G b k s11 w12):=HW11.o.fr hf (fun q e=>⟨.inr e,by have e:q=i:=e;subst e;exact Nat.le_of_not_lt fun h=>HI.o (HG.o _ h)⟩)
  have HF12:Hid (FN P w w12):=HF11.o.trans (hf.mono (fun q _ e e2=>by have e:q=i:=e;subst e;exact HI.o e2))
  clear hf
  have s12_:True:=trivial
  obtain ⟨s12,HS12⟩: ∃z,Hid (s11.app []=z):=⟨_,rfl⟩
  have n12:s12.n≤s11.n:=by rw [←HS12.o];exact Nat.le_refl _
  have HW12:Hid (WQ P i G b k s12 w12):=by rw [←HS12.o];exact HW12.o
  by_cases hq13:h.unit= []
  ·have hc13:=hdd hq13
   have cb18:w12.cell? ⟨i,18,none⟩=some (.string ⟨#[]⟩):=(jq0 HB12.o 18).trans (by show some (sv h.unit)=_;rw [hq13])
   have HUN:=hdd hq13
   clear hq13
   go_wp2_with fail
   refine (jq3 HW12.o [[59]] _ rfl _ _ (by decide) (by show s12.n+2*1≤lim;omega)).mono ?_
   rintro e w14 ⟨rfl,h1,hf⟩
   clear c12 f12 hw12 s12_ cb18
   have hl14:([[59]]:List Rs.Bytes).length≤1:=by decide
   obtain ⟨s14,HS14⟩: ∃z,Hid (s12.app [[59]]=z):=⟨_,rfl⟩
   have n14:s14.n≤s12.n+2*1:=by rw [←HS14.o,St.app_n];have:=hl14;omega
   have HW14:Hid (WQ P i G b k s14 w14):=by rw [←HS14.o];exact h1
   have HB14:Hid (w14.heap[i]?=some (OI {{h with name:= []} with name:= [],word:=0} c d n l)):=hf.blk HB12.o (fun e=>e (.inr rfl))
   have HF14:Hid (FN P w w14):=HF12.o.trans (hf.mono (fun q _ e e2=>e (.inl e2)))
   clear h1 hf
   go_wp2_with fail
   first|go_end0|refine bodyPost_ret (results_none rfl _ _ _) rfl ?_
   exact .inr ⟨ts1++([[109,111,110,101,121]]++([]++([[59]]))),(by show unit h=some _;unfold unit;rw [HT1.o,(show unitWord h.word=ok [[109,111,110,101,121]] from (if_neg HK1.o).trans (if_pos hc10.out)),if_pos hc13.out]<;>(first|rfl|simp [cat,ok,natureT,semi])),rfl,⟨(by rw [←St.app_app,HS1.o,←St.app_app,HS11.o,←St.app_app,HS12.o,HS14.o];exact HW14.o),(by unfold unitLeft;rw [if_pos hc13.out];exact HB14.o)⟩,HF14.o⟩
  have hc13:=hdd hq13
  have cb18:w12.cell? ⟨i,18,none⟩=some (.string ⟨h.unit.toArray⟩):=jq0 HB12.o 18
  have qb18:(h.unit== [])=false:=by simpa using hq13
  have qc18:(h.unit != [])=true:=by simpa using hq13
  have HUN:=hdd hq13
  clear hq13
  go_wp2_with fail
  refine (jq3 HW12.o [[61]] _ rfl _ _ (by decide) (by show s12.n+2*1≤lim;omega)).mono ?_
  rintro e w15 ⟨rfl,h1,hf⟩
  clear c12 f12 hw12 s12_ cb18 qb18 qc18
  have hl15:([[61]]:List Rs.Bytes).length≤1:=by decide
  obtain ⟨s15,HS15⟩: ∃z,Hid (s12.app [[61]]=z):=⟨_,rfl⟩
  have n15:s15.n≤s12.n+2*1:=by rw [←HS15.o,St.app_n];have:=hl15;omega
  have HW15:Hid (WQ P i G b k s15 w15):=by rw [←HS15.o];exact h1
  have HB15:Hid (w15.heap[i]?=some (OI {{h with name:= []} with name:= [],word:=0} c d n l)):=hf.blk HB12.o (fun e=>e (.inr rfl))
  have HF15:Hid (FN P w w15):=HF12.o.trans (hf.mono (fun q _ e e2=>e (.inl e2)))
  clear h1 hf
  go_wp2_with fail
  refine (kq5 HW15.o HI.o HG.o HB15.o (by cases HO.o;constructor<;>first|assumption|(apply jx8;assumption)|exact Nat.zero_le _) (by omega)).mono ?_
  rintro e w16 (⟨ht,rfl,hf⟩|⟨ts16,ht,rfl,⟨h1,hb⟩,hf⟩)
  ·have ht:amount h.num h.unit=none:=(by exact ht)
   exact ⟨rfl,.inl ⟨(by show unit h=none;unfold unit;rw [HT1.o,(show unitWord h.word=ok [[109,111,110,101,121]] from (if_neg HK1.o).trans (if_pos hc10.out)),if_neg hc13.out,ht]<;>rfl),rfl,HF15.o.trans hf⟩⟩
  have ht:amount h.num h.unit=some ts16:=(by exact ht)
  have hl16:ts16.length≤4:=jj5 _ ht
  have HT16:=hdd ht
  obtain ⟨s16,HS16⟩: ∃z,Hid (s15.app ts16=z):=⟨_,rfl⟩
  have n16:s16.n≤s15.n+2*4:=by rw [←HS16.o,St.app_n];have:=hl16;omega
  have HW16:Hid (WQ P i G b k s16 w16):=by rw [←HS16.o];exact h1
  have HB16:Hid (w16.heap[i]?=some (.cells ((Rs.icells (amountLeft ({{h with name:= []} with name:= [],word:=0}):Rs.Item) c d n l).toArray) 49 (0,0))):=hb
  have HF16:Hid (FN P w w16):=HF15.o.trans hf
  clear hb ht
  clear h1 hf
  go_wp2_with fail
  refine (jq3 HW16.o [[59]] _ rfl _ _ (by decide) (by show s16.n+2*1≤lim;omega)).mono ?_
  rintro e w17 ⟨rfl,h1,hf⟩
  have hl17:([[59]]:List Rs.Bytes).length≤1:=by decide
  obtain ⟨s17,HS17⟩: ∃z,Hid (s16.app [[59]]=z):=⟨_,rfl⟩
  have n17:s17.n≤s16.n+2*1:=by rw [←HS17.o,St.app_n];have:=hl17;omega
  have HW17:Hid (WQ P i G b k s17 w17):=by rw [←HS17.o];exact h1
  have HB17:Hid (w17.heap[i]?=some (.cells ((Rs.icells (amountLeft ({{h with name:= []} with name:= [],word:=0}):Rs.Item) c d n l).toArray) 49 (0,0))):=hf.blk HB16.o (fun e=>e (.inr rfl))
  have HF17:Hid (FN P w w17):=HF16.o.trans (hf.mono (fun q _ e e2=>e (.inl e2)))
  clear h1 hf
  go_wp2_with fail
  first|go_end0|refine bodyPost_ret (results_none rfl _ _ _) rfl ?_
  exact .inr ⟨ts1++([[109,111,110,101,121]]++([]++([[61]]++(ts16++([[59]]))))),(by show unit h=some _;unfold unit;rw [HT1.o,(show unitWord h.word=ok [[109,111,110,101,121]] from (if_neg HK1.o).trans (if_pos hc10.out)),if_neg hc13.out,HT16.o]<;>(first|rfl|simp [cat,ok,natureT,semi])),rfl,⟨(by rw [←St.app_app,HS1.o,←St.app_app,HS11.o,←St.app_app,HS12.o,←St.app_app,HS15.o,←St.app_app,HS16.o,HS17.o];exact HW17.o),(by unfold unitLeft;rw [if_neg hc13.out];exact HB17.o)⟩,HF17.o⟩
 have hc10:=hdd hq10
 have qa2:(h.word==2)=false:=beq_eq_false_iff_ne.2 hq10
 have HK2:=hdd hq10
 clear hq10
 go_wp2_with fail
 exact ⟨rfl,.inl ⟨(by show unit h=none;unfold unit;rw [HT1.o,(show unitWord h.word=none from (if_neg HK1.o).trans (if_neg hc10.out))]<;>rfl),rfl,HF1.o⟩⟩
theorem act_any {G:Nat} {P:Nat→Prop} {b:Nat} {k:Value} {s:St} {w:World} {i:Nat} {h:Rs.Item} {c d n l:Value} (hw:WQ P i G b k s w) (hi: ¬P i) (hG: ∀q,q<G→P q) (hb:w.heap[i]?=some (.cells (Rs.icells h c d n l).toArray 49 (0,0))) (ho:Ok h) (hn:s.n+100≤lim):
  Calls Tryz.prog 85 #[.pointer (some ⟨b,0,none⟩),.pointer (some ⟨i,0,none⟩)] w (Out P (act h) (fun ts w'=>WQ P i G b k (s.app ts) w'∧w'.heap[i]?=some (OI (actLeft h) c d n l)) w):=by
 have HW0:=hdd hw;have HI:=hdd hi;have HG:=hdd hG;have HB0:=hdd hb;have HO:=hdd ho
 have HF0:Hid (FN P w w):=Fr.refl _ _
 clear hw hi hG hb ho
 go_enter Tryz.func85,Tryz.ntmps85
 go_wp2_with fail
 refine (jj1 HW0.o HI.o HG.o HB0.o (by cases HO.o;constructor<;>first|assumption|(apply jx8;assumption)|exact Nat.zero_le _) (by omega) [97,99,116] (by decide)).mono ?_
 rintro e w1 (⟨ht,rfl,hf⟩|⟨ts1,ht,rfl,⟨h1,hb⟩,hf⟩)
 ·have ht:begin_ [97,99,116] h=none:=(by exact ht)
  exact ⟨rfl,.inl ⟨(by show act h=none;unfold act;rw [ht]<;>rfl),rfl,HF0.o.trans hf⟩⟩
 have ht:begin_ [97,99,116] h=some ts1:=(by exact ht)
 have hl1:ts1.length≤2:=jz8 _ ht
 have HT1:=hdd ht
 obtain ⟨s1,HS1⟩: ∃z,Hid (s.app ts1=z):=⟨_,rfl⟩
 have n1:s1.n≤s.n+2*2:=by rw [←HS1.o,St.app_n];have:=hl1;omega
 have HW1:Hid (WQ P i G b k s1 w1):=by rw [←HS1.o];exact h1
 have HB1:Hid (w1.heap[i]?=some (OI {h with name:= []} c d n l)):=hb
 have HF1:Hid (FN P w w1):=HF0.o.trans hf
 clear hb ht
 clear h1 hf
 go_wp2_with fail
 refine (jq3 HW1.o [[98,121]] _ rfl _ _ (by decide) (by show s1.n+2*1≤lim;omega)).mono ?_
 rintro e w2 ⟨rfl,h1,hf⟩
 have hl2:([[98,121]]:List Rs.Bytes).length≤1:=by decide
 obtain ⟨s2,HS2⟩: ∃z,Hid (s1.app [[98,121]]=z):=⟨_,rfl⟩
 have n2:s2.n≤s1.n+2*1:=by rw [←HS2.o,St.app_n];have:=hl2;omega
 have HW2:Hid (WQ P i G b k s2 w2):=by rw [←HS2.o];exact h1
 have HB2:Hid (w2.heap[i]?=some (OI {h with name:= []} c d n l)):=hf.blk HB1.o (fun e=>e (.inr rfl))
 have HF2:Hid (FN P w w2):=HF1.o.trans (hf.mono (fun q _ e e2=>e (.inl e2)))
 clear h1 hf
 by_cases hq3:h.of_=natureT
 ·have hc3:=hdd hq3
  have cb3:w2.cell? ⟨i,3,none⟩=some (.string ⟨#[110,97,116,117,114,101]⟩):=(jq0 HB2.o 3).trans (by show some (sv h.of_)=_;rw [hq3];rfl)
  clear hq3
  go_wp2_with fail
  exact ⟨rfl,.inl ⟨(by show act h=none;unfold act;rw [HT1.o,(show actOf h.of_=none from if_pos hc3.out)]<;>rfl),rfl,HF2.o⟩⟩
 have hc3:=hdd hq3
 have HNA:=hdd hq3
 have qn3:(h.of_== [110,97,116,117,114,101])=false:=by simpa [natureT] using hq3
 clear hq3
 by_cases hq5:h.of_= []
 ·have hc5:=hdd hq5
  have cb3:w2.cell? ⟨i,3,none⟩=some (.string ⟨#[]⟩):=(jq0 HB2.o 3).trans (by show some (sv h.of_)=_;rw [hq5])
  have HOF:=hdd hq5
  clear hq5
  go_wp2_with fail
  refine (jq3 HW2.o [[110,97,116,117,114,101]] _ rfl _ _ (by decide) (by show s2.n+2*1≤lim;omega)).mono ?_
  rintro e w6 ⟨rfl,h1,hf⟩
  clear qn3 cb3
  have hl6:([[110,97,116,117,114,101]]:List Rs.Bytes).length≤1:=by decide
  obtain ⟨s6,HS6⟩: ∃z,Hid (s2.app [[110,97,116,117,114,101]]=z):=⟨_,rfl⟩
  have n6:s6.n≤s2.n+2*1:=by rw [←HS6.o,St.app_n];have:=hl6;omega
  have HW6:Hid (WQ P i G b k s6 w6):=by rw [←HS6.o];exact h1
  have HB6:Hid (w6.heap[i]?=some (OI {h with name:= []} c d n l)):=hf.blk HB2.o (fun e=>e (.inr rfl))
  have HF6:Hid (FN P w w6):=HF2.o.trans (hf.mono (fun q _ e e2=>e (.inl e2)))
  clear h1 hf
  have HB7:Hid (w6.heap[i]?=some (OI {{h with name:= []} with of_:= []} c d n l)):=by
   have hb:=HB6.o
   rw [HOF.o] at hb
   exact hb
  have HW7:=HW6;have HF7:=HF6
  obtain ⟨s7,HS7⟩: ∃z,Hid (s6.app []=z):=⟨_,rfl⟩
  have n7:s7.n≤s6.n:=by rw [←HS7.o];exact Nat.le_refl _
  have HW7:Hid (WQ P i G b k s7 w6):=by rw [←HS7.o];exact HW7.o
  by_cases hq8:h.word=2
  ·have hc8:=hdd hq8
   have cb5:w6.cell? ⟨i,5,none⟩=some (.int .i64 2):=(jq0 HB7.o 5).trans (by show some (Value.int .i64 h.word)=_;rw [hq8])
   have HK2:=hdd hq8
   clear hq8
   go_wp2_with fail
   refine (jq3 HW7.o [[97,115,115,105,103,110,115]] _ rfl _ _ (by decide) (by show s7.n+2*1≤lim;omega)).mono ?_
   rintro e w9 ⟨rfl,h1,hf⟩
   clear cb5
   have hl9:([[97,115,115,105,103,110,115]]:List Rs.Bytes).length≤1:=by decide
   obtain ⟨s9,HS9⟩: ∃z,Hid (s7.app [[97,115,115,105,103,110,115]]=z):=⟨_,rfl⟩
   have n9:s9.n≤s7.n+2*1:=by rw [←HS9.o,St.app_n];have:=hl9;omega
   have HW9:Hid (WQ P i G b k s9 w9):=by rw [←HS9.o];exact h1
   have HB9:Hid (w9.heap[i]?=some (OI {{h with name:= []} with of_:= []} c d n l)):=hf.blk HB7.o (fun e=>e (.inr rfl))
   have HF9:Hid (FN P w w9):=HF7.o.trans (hf.mono (fun q _ e e2=>e (.inl e2)))
   clear h1 hf
   go_wp2_with fail
   refine (name_any HW9.o HI.o HG.o (h.give) HB9.o rfl (by exact HO.o.give) (by omega)).mono ?_
   rintro e w10 (⟨ht,rfl,hf⟩|⟨ts10,ht,rfl,⟨h1,hb⟩,hf⟩)
   ·have ht:name (h.give)=none:=(by exact ht)
    exact ⟨rfl,.inl ⟨(by show act h=none;unfold act;rw [HT1.o,(show actOf h.of_=ok [natureT] from (if_neg HNA.o).trans (if_pos hc5.out)),(show actWord h=cat (ok [[97,115,115,105,103,110,115]]) (cat (name h.give) (cat (ok [[116,111]]) (name h.to_))) from (if_pos (.inl hc8.out)).trans (by rw [if_pos hc8.out])),ht]<;>rfl),rfl,HF9.o.trans hf⟩⟩
   have ht:name (h.give)=some ts10:=(by exact ht)
   have hl10:ts10.length≤1:=jx7 _ ht
   have HT10:=hdd ht
   obtain ⟨s10,HS10⟩: ∃z,Hid (s9.app ts10=z):=⟨_,rfl⟩
   have n10:s10.n≤s9.n+2*1:=by rw [←HS10.o,St.app_n];have:=hl10;omega
   have HW10:Hid (WQ P i G b k s10 w10):=by rw [←HS10.o];exact h1
   have HB10:Hid (w10.heap[i]?=some (OI {{{h with name:= []} with of_:= []} with give:= []} c d n l)):=hb
   have HF10:Hid (FN P w w10):=HF9.o.trans hf
   clear hb ht
   clear h1 hf
   go_wp2_with fail
   refine (jq3 HW10.o [[116,111]] _ rfl _ _ (by decide) (by show s10.n+2*1≤lim;omega)).mono ?_
   rintro e w11 ⟨rfl,h1,hf⟩
   have hl11:([[116,111]]:List Rs.Bytes).length≤1:=by decide
   obtain ⟨s11,HS11⟩: ∃z,Hid (s10.app [[116,111]]=z):=⟨_,rfl⟩
   have n11:s11.n≤s10.n+2*1:=by rw [←HS11.o,St.app_n];have:=hl11;omega
   have HW11:Hid (WQ P i G b k s11 w11):=by rw [←HS11.o];exact h1
   have HB11:Hid (w11.heap[i]?=some (OI {{{h with name:= []} with of_:= []} with give:= []} c d n l)):=hf.blk HB10.o (fun e=>e (.inr rfl))
   have HF11:Hid (FN P w w11):=HF10.o.trans (hf.mono (fun q _ e e2=>e (.inl e2)))
   clear h1 hf
   go_wp2_with fail
   refine (name_any HW11.o HI.o HG.o (h.to_) HB11.o rfl (by exact HO.o.to_) (by omega)).mono ?_
   rintro e w12 (⟨ht,rfl,hf⟩|⟨ts12,ht,rfl,⟨h1,hb⟩,hf⟩)
   ·have ht:name (h.to_)=none:=(by exact ht)
    exact ⟨rfl,.inl ⟨(by show act h=none;unfold act;rw [HT1.o,(show actOf h.of_=ok [natureT] from (if_neg HNA.o).trans (if_pos hc5.out)),(show actWord h=cat (ok [[97,115,115,105,103,110,115]]) (cat (name h.give) (cat (ok [[116,111]]) (name h.to_))) from (if_pos (.inl hc8.out)).trans (by rw [if_pos hc8.out])),HT10.o,ht]<;>rfl),rfl,HF11.o.trans hf⟩⟩
   have ht:name (h.to_)=some ts12:=(by exact ht)
   have hl12:ts12.length≤1:=jx7 _ ht
   have HT12:=hdd ht
   obtain ⟨s12,HS12⟩: ∃z,Hid (s11.app ts12=z):=⟨_,rfl⟩
   have n12:s12.n≤s11.n+2*1:=by rw [←HS12.o,St.app_n];have:=hl12;omega
   have HW12:Hid (WQ P i G b k s12 w12):=by rw [←HS12.o];exact h1
   have HB12:Hid (w12.heap[i]?=some (OI {{{{h with name:= []} with of_:= []} with give:= []} with to_:= []} c d n l)):=hb
   have HF12:Hid (FN P w w12):=HF11.o.trans hf
   clear hb ht
   clear h1 hf
   have c13:w12.cell? ⟨i,5,none⟩=some (.int .i64 h.word):=jq0 HB12.o _
   have f13:w12.frozen? ⟨i,5,none⟩=false:=jq1 HB12.o _
   obtain ⟨w13,hw13⟩: ∃u,w12.setCell ⟨i,5,none⟩ (.int .i64 0)=u:=⟨_,rfl⟩
   have hf:Fr (fun q=>q=i) w12 w13:=by rw [←hw13];exact (Fr.refl (fun q=>q=i) w12).setb 5 _
   have HB13:Hid (w13.heap[i]?=some (OI {{{{{h with name:= []} with of_:= []} with give:= []} with to_:= []} with word:=0} c d n l)):=by rw [←hw13];exact jq9 HB12.o 5 _
   have HW13:Hid (WQ P i G b k s12 w13):=HW12.o.fr hf (fun q e=>⟨.inr e,by have e:q=i:=e;subst e;exact Nat.le_of_not_lt fun h=>HI.o (HG.o _ h)⟩)
   have HF13:Hid (FN P w w13):=HF12.o.trans (hf.mono (fun q _ e e2=>by have e:q=i:=e;subst e;exact HI.o e2))
   clear hf
   have s13_:True:=trivial
   obtain ⟨s13,HS13⟩: ∃z,Hid (s12.app []=z):=⟨_,rfl⟩
   have n13:s13.n≤s12.n:=by rw [←HS13.o];exact Nat.le_refl _
   have HW13:Hid (WQ P i G b k s13 w13):=by rw [←HS13.o];exact HW13.o
   go_wp2_with fail
   refine (jq3 HW13.o [[59]] _ rfl _ _ (by decide) (by show s13.n+2*1≤lim;omega)).mono ?_
   rintro e w14 ⟨rfl,h1,hf⟩
   clear c13 f13 hw13 s13_
   have hl14:([[59]]:List Rs.Bytes).length≤1:=by decide
   obtain ⟨s14,HS14⟩: ∃z,Hid (s13.app [[59]]=z):=⟨_,rfl⟩
   have n14:s14.n≤s13.n+2*1:=by rw [←HS14.o,St.app_n];have:=hl14;omega
   have HW14:Hid (WQ P i G b k s14 w14):=by rw [←HS14.o];exact h1
   have HB14:Hid (w14.heap[i]?=some (OI {{{{{h with name:= []} with of_:= []} with give:= []} with to_:= []} with word:=0} c d n l)):=hf.blk HB13.o (fun e=>e (.inr rfl))
   have HF14:Hid (FN P w w14):=HF13.o.trans (hf.mono (fun q _ e e2=>e (.inl e2)))
   clear h1 hf
   go_wp2_with fail
   first|go_end0|refine bodyPost_ret (results_none rfl _ _ _) rfl ?_
   exact .inr ⟨ts1++([[98,121]]++([[110,97,116,117,114,101]]++([]++([[97,115,115,105,103,110,115]]++(ts10++([[116,111]]++(ts12++([]++([[59]]))))))))),(by show act h=some _;unfold act;rw [HT1.o,(show actOf h.of_=ok [natureT] from (if_neg HNA.o).trans (if_pos hc5.out)),(show actWord h=cat (ok [[97,115,115,105,103,110,115]]) (cat (name h.give) (cat (ok [[116,111]]) (name h.to_))) from (if_pos (.inl hc8.out)).trans (by rw [if_pos hc8.out])),HT10.o,HT12.o]<;>(first|rfl|simp [cat,ok,natureT,semi])),rfl,⟨(by rw [←St.app_app,HS1.o,←St.app_app,HS2.o,←St.app_app,HS6.o,←St.app_app,HS7.o,←St.app_app,HS9.o,←St.app_app,HS10.o,←St.app_app,HS11.o,←St.app_app,HS12.o,←St.app_app,HS13.o,HS14.o];exact HW14.o),(by unfold actLeft;rw [if_neg (by rw [hc8.out];decide)];exact HB14.o)⟩,HF14.o⟩
  have hc8:=hdd hq8
  have HK2:=hdd hq8
  clear hq8
  by_cases hq15:h.word=3
  ·have hc15:=hdd hq15
   have cb5:w6.cell? ⟨i,5,none⟩=some (.int .i64 3):=(jq0 HB7.o 5).trans (by show some (Value.int .i64 h.word)=_;rw [hq15])
   have HK3:=hdd hq15
   clear hq15
   go_wp2_with fail
   refine (jq3 HW7.o [[110,111,118,97,116,101,115]] _ rfl _ _ (by decide) (by show s7.n+2*1≤lim;omega)).mono ?_
   rintro e w16 ⟨rfl,h1,hf⟩
   clear cb5
   have hl16:([[110,111,118,97,116,101,115]]:List Rs.Bytes).length≤1:=by decide
   obtain ⟨s16,HS16⟩: ∃z,Hid (s7.app [[110,111,118,97,116,101,115]]=z):=⟨_,rfl⟩
   have n16:s16.n≤s7.n+2*1:=by rw [←HS16.o,St.app_n];have:=hl16;omega
   have HW16:Hid (WQ P i G b k s16 w16):=by rw [←HS16.o];exact h1
   have HB16:Hid (w16.heap[i]?=some (OI {{h with name:= []} with of_:= []} c d n l)):=hf.blk HB7.o (fun e=>e (.inr rfl))
   have HF16:Hid (FN P w w16):=HF7.o.trans (hf.mono (fun q _ e e2=>e (.inl e2)))
   clear h1 hf
   go_wp2_with fail
   refine (name_any HW16.o HI.o HG.o (h.give) HB16.o rfl (by exact HO.o.give) (by omega)).mono ?_
   rintro e w17 (⟨ht,rfl,hf⟩|⟨ts17,ht,rfl,⟨h1,hb⟩,hf⟩)
   ·have ht:name (h.give)=none:=(by exact ht)
    exact ⟨rfl,.inl ⟨(by show act h=none;unfold act;rw [HT1.o,(show actOf h.of_=ok [natureT] from (if_neg HNA.o).trans (if_pos hc5.out)),(show actWord h=cat (ok [[110,111,118,97,116,101,115]]) (cat (name h.give) (cat (ok [[116,111]]) (name h.to_))) from (if_pos (.inr hc15.out)).trans (by rw [if_neg HK2.o])),ht]<;>rfl),rfl,HF16.o.trans hf⟩⟩
   have ht:name (h.give)=some ts17:=(by exact ht)
   have hl17:ts17.length≤1:=jx7 _ ht
   have HT17:=hdd ht
   obtain ⟨s17,HS17⟩: ∃z,Hid (s16.app ts17=z):=⟨_,rfl⟩
   have n17:s17.n≤s16.n+2*1:=by rw [←HS17.o,St.app_n];have:=hl17;omega
   have HW17:Hid (WQ P i G b k s17 w17):=by rw [←HS17.o];exact h1
   have HB17:Hid (w17.heap[i]?=some (OI {{{h with name:= []} with of_:= []} with give:= []} c d n l)):=hb
   have HF17:Hid (FN P w w17):=HF16.o.trans hf
   clear hb ht
   clear h1 hf
   go_wp2_with fail
   refine (jq3 HW17.o [[116,111]] _ rfl _ _ (by decide) (by show s17.n+2*1≤lim;omega)).mono ?_
   rintro e w18 ⟨rfl,h1,hf⟩
   have hl18:([[116,111]]:List Rs.Bytes).length≤1:=by decide
   obtain ⟨s18,HS18⟩: ∃z,Hid (s17.app [[116,111]]=z):=⟨_,rfl⟩
   have n18:s18.n≤s17.n+2*1:=by rw [←HS18.o,St.app_n];have:=hl18;omega
   have HW18:Hid (WQ P i G b k s18 w18):=by rw [←HS18.o];exact h1
   have HB18:Hid (w18.heap[i]?=some (OI {{{h with name:= []} with of_:= []} with give:= []} c d n l)):=hf.blk HB17.o (fun e=>e (.inr rfl))
   have HF18:Hid (FN P w w18):=HF17.o.trans (hf.mono (fun q _ e e2=>e (.inl e2)))
   clear h1 hf
   go_wp2_with fail
   refine (name_any HW18.o HI.o HG.o (h.to_) HB18.o rfl (by exact HO.o.to_) (by omega)).mono ?_
   rintro e w19 (⟨ht,rfl,hf⟩|⟨ts19,ht,rfl,⟨h1,hb⟩,hf⟩)
   ·have ht:name (h.to_)=none:=(by exact ht)
    exact ⟨rfl,.inl ⟨(by show act h=none;unfold act;rw [HT1.o,(show actOf h.of_=ok [natureT] from (if_neg HNA.o).trans (if_pos hc5.out)),(show actWord h=cat (ok [[110,111,118,97,116,101,115]]) (cat (name h.give) (cat (ok [[116,111]]) (name h.to_))) from (if_pos (.inr hc15.out)).trans (by rw [if_neg HK2.o])),HT17.o,ht]<;>rfl),rfl,HF18.o.trans hf⟩⟩
   have ht:name (h.to_)=some ts19:=(by exact ht)
   have hl19:ts19.length≤1:=jx7 _ ht
   have HT19:=hdd ht
   obtain ⟨s19,HS19⟩: ∃z,Hid (s18.app ts19=z):=⟨_,rfl⟩
   have n19:s19.n≤s18.n+2*1:=by rw [←HS19.o,St.app_n];have:=hl19;omega
   have HW19:Hid (WQ P i G b k s19 w19):=by rw [←HS19.o];exact h1
   have HB19:Hid (w19.heap[i]?=some (OI {{{{h with name:= []} with of_:= []} with give:= []} with to_:= []} c d n l)):=hb
   have HF19:Hid (FN P w w19):=HF18.o.trans hf
   clear hb ht
   clear h1 hf
   have c20:w19.cell? ⟨i,5,none⟩=some (.int .i64 h.word):=jq0 HB19.o _
   have f20:w19.frozen? ⟨i,5,none⟩=false:=jq1 HB19.o _
   obtain ⟨w20,hw20⟩: ∃u,w19.setCell ⟨i,5,none⟩ (.int .i64 0)=u:=⟨_,rfl⟩
   have hf:Fr (fun q=>q=i) w19 w20:=by rw [←hw20];exact (Fr.refl (fun q=>q=i) w19).setb 5 _
   have HB20:Hid (w20.heap[i]?=some (OI {{{{{h with name:= []} with of_:= []} with give:= []} with to_:= []} with word:=0} c d n l)):=by rw [←hw20];exact jq9 HB19.o 5 _
   have HW20:Hid (WQ P i G b k s19 w20):=HW19.o.fr hf (fun q e=>⟨.inr e,by have e:q=i:=e;subst e;exact Nat.le_of_not_lt fun h=>HI.o (HG.o _ h)⟩)
   have HF20:Hid (FN P w w20):=HF19.o.trans (hf.mono (fun q _ e e2=>by have e:q=i:=e;subst e;exact HI.o e2))
   clear hf
   have s20_:True:=trivial
   obtain ⟨s20,HS20⟩: ∃z,Hid (s19.app []=z):=⟨_,rfl⟩
   have n20:s20.n≤s19.n:=by rw [←HS20.o];exact Nat.le_refl _
   have HW20:Hid (WQ P i G b k s20 w20):=by rw [←HS20.o];exact HW20.o
   go_wp2_with fail
   refine (jq3 HW20.o [[59]] _ rfl _ _ (by decide) (by show s20.n+2*1≤lim;omega)).mono ?_
   rintro e w21 ⟨rfl,h1,hf⟩
   clear c20 f20 hw20 s20_
   have hl21:([[59]]:List Rs.Bytes).length≤1:=by decide
   obtain ⟨s21,HS21⟩: ∃z,Hid (s20.app [[59]]=z):=⟨_,rfl⟩
   have n21:s21.n≤s20.n+2*1:=by rw [←HS21.o,St.app_n];have:=hl21;omega
   have HW21:Hid (WQ P i G b k s21 w21):=by rw [←HS21.o];exact h1
   have HB21:Hid (w21.heap[i]?=some (OI {{{{{h with name:= []} with of_:= []} with give:= []} with to_:= []} with word:=0} c d n l)):=hf.blk HB20.o (fun e=>e (.inr rfl))
   have HF21:Hid (FN P w w21):=HF20.o.trans (hf.mono (fun q _ e e2=>e (.inl e2)))
   clear h1 hf
   go_wp2_with fail
   first|go_end0|refine bodyPost_ret (results_none rfl _ _ _) rfl ?_
   exact .inr ⟨ts1++([[98,121]]++([[110,97,116,117,114,101]]++([]++([[110,111,118,97,116,101,115]]++(ts17++([[116,111]]++(ts19++([]++([[59]]))))))))),(by show act h=some _;unfold act;rw [HT1.o,(show actOf h.of_=ok [natureT] from (if_neg HNA.o).trans (if_pos hc5.out)),(show actWord h=cat (ok [[110,111,118,97,116,101,115]]) (cat (name h.give) (cat (ok [[116,111]]) (name h.to_))) from (if_pos (.inr hc15.out)).trans (by rw [if_neg HK2.o])),HT17.o,HT19.o]<;>(first|rfl|simp [cat,ok,natureT,semi])),rfl,⟨(by rw [←St.app_app,HS1.o,←St.app_app,HS2.o,←St.app_app,HS6.o,←St.app_app,HS7.o,←St.app_app,HS16.o,←St.app_app,HS17.o,←St.app_app,HS18.o,←St.app_app,HS19.o,←St.app_app,HS20.o,HS21.o];exact HW21.o),(by unfold actLeft;rw [if_neg (by rw [hc15.out];decide)];exact HB21.o)⟩,HF21.o⟩
  have hc15:=hdd hq15
  have HK3:=hdd hq15
  clear hq15
  by_cases hq22:h.word=1
  ·have hc22:=hdd hq22
   have cb5:w6.cell? ⟨i,5,none⟩=some (.int .i64 1):=(jq0 HB7.o 5).trans (by show some (Value.int .i64 h.word)=_;rw [hq22])
   have HK1:=hdd hq22
   clear hq22
   by_cases hq23:h.unit= []
   ·have hc23:=hdd hq23
    have cb18:w6.cell? ⟨i,18,none⟩=some (.string ⟨#[]⟩):=(jq0 HB7.o 18).trans (by show some (sv h.unit)=_;rw [hq23])
    have HUN:=hdd hq23
    clear hq23
    by_cases hq24:h.to_= []
    ·have hc24:=hdd hq24
     have cb22:w6.cell? ⟨i,22,none⟩=some (.string ⟨#[]⟩):=(jq0 HB7.o 22).trans (by show some (sv h.to_)=_;rw [hq24])
     have HTO:=hdd hq24
     clear hq24
     have HB25:Hid (w6.heap[i]?=some (OI {{{h with name:= []} with of_:= []} with to_:= []} c d n l)):=by
      have hb:=HB7.o
      rw [HTO.o] at hb
      exact hb
     have HW25:=HW7;have HF25:=HF7
     obtain ⟨s25,HS25⟩: ∃z,Hid (s7.app []=z):=⟨_,rfl⟩
     have n25:s25.n≤s7.n:=by rw [←HS25.o];exact Nat.le_refl _
     have HW25:Hid (WQ P i G b k s25 w6):=by rw [←HS25.o];exact HW25.o
     have c26:w6.cell? ⟨i,5,none⟩=some (.int .i64 h.word):=jq0 HB25.o _
     have f26:w6.frozen? ⟨i,5,none⟩=false:=jq1 HB25.o _
     obtain ⟨w26,hw26⟩: ∃u,w6.setCell ⟨i,5,none⟩ (.int .i64 0)=u:=⟨_,rfl⟩
     have hf:Fr (fun q=>q=i) w6 w26:=by rw [←hw26];exact (Fr.refl (fun q=>q=i) w6).setb 5 _
     have HB26:Hid (w26.heap[i]?=some (OI {{{{h with name:= []} with of_:= []} with to_:= []} with word:=0} c d n l)):=by rw [←hw26];exact jq9 HB25.o 5 _
     have HW26:Hid (WQ P i G b k s25 w26):=HW25.o.fr hf (fun q e=>⟨.inr e,by have e:q=i:=e;subst e;exact Nat.le_of_not_lt fun h=>HI.o (HG.o _ h)⟩)
     have HF26:Hid (FN P w w26):=HF25.o.trans (hf.mono (fun q _ e e2=>by have e:q=i:=e;subst e;exact HI.o e2))
     clear hf
     have s26_:True:=trivial
     obtain ⟨s26,HS26⟩: ∃z,Hid (s25.app []=z):=⟨_,rfl⟩
     have n26:s26.n≤s25.n:=by rw [←HS26.o];exact Nat.le_refl _
     have HW26:Hid (WQ P i G b k s26 w26):=by rw [←HS26.o];exact HW26.o
     go_wp2_with fail
     refine (jq3 HW26.o [[59]] _ rfl _ _ (by decide) (by show s26.n+2*1≤lim;omega)).mono ?_
     rintro e w27 ⟨rfl,h1,hf⟩
     clear cb5 cb18 cb22 c26 f26 hw26 s26_
     have hl27:([[59]]:List Rs.Bytes).length≤1:=by decide
     obtain ⟨s27,HS27⟩: ∃z,Hid (s26.app [[59]]=z):=⟨_,rfl⟩
     have n27:s27.n≤s26.n+2*1:=by rw [←HS27.o,St.app_n];have:=hl27;omega
     have HW27:Hid (WQ P i G b k s27 w27):=by rw [←HS27.o];exact h1
     have HB27:Hid (w27.heap[i]?=some (OI {{{{h with name:= []} with of_:= []} with to_:= []} with word:=0} c d n l)):=hf.blk HB26.o (fun e=>e (.inr rfl))
     have HF27:Hid (FN P w w27):=HF26.o.trans (hf.mono (fun q _ e e2=>e (.inl e2)))
     clear h1 hf
     go_wp2_with fail
     first|go_end0|refine bodyPost_ret (results_none rfl _ _ _) rfl ?_
     exact .inr ⟨ts1++([[98,121]]++([[110,97,116,117,114,101]]++([]++([]++([]++([[59]])))))),(by show act h=some _;unfold act;rw [HT1.o,(show actOf h.of_=ok [natureT] from (if_neg HNA.o).trans (if_pos hc5.out)),(show actWord h=cat ((if h.unit= [] then ok [] else cat (ok [[109,111,118,101,115]]) (amount h.num h.unit))) ((if h.to_= [] then ok [] else cat (ok [[116,111]]) (name h.to_))) from (if_neg (fun e=>e.elim HK2.o HK3.o)).trans (if_pos hc22.out)),if_pos hc23.out,if_pos hc24.out]<;>(first|rfl|simp [cat,ok,natureT,semi])),rfl,⟨(by rw [←St.app_app,HS1.o,←St.app_app,HS2.o,←St.app_app,HS6.o,←St.app_app,HS7.o,←St.app_app,HS25.o,←St.app_app,HS26.o,HS27.o];exact HW27.o),(by unfold actLeft;rw [if_pos HK1.o,if_pos hc23.out];exact HB27.o)⟩,HF27.o⟩
    have hc24:=hdd hq24
    have cb22:w6.cell? ⟨i,22,none⟩=some (.string ⟨h.to_.toArray⟩):=jq0 HB7.o 22
    have qb22:(h.to_== [])=false:=by simpa using hq24
    have qc22:(h.to_ != [])=true:=by simpa using hq24
    have HTO:=hdd hq24
    clear hq24
    go_wp2_with fail
    refine (jq3 HW7.o [[116,111]] _ rfl _ _ (by decide) (by show s7.n+2*1≤lim;omega)).mono ?_
    rintro e w28 ⟨rfl,h1,hf⟩
    clear cb5 cb18 cb22 qb22 qc22
    have hl28:([[116,111]]:List Rs.Bytes).length≤1:=by decide
    obtain ⟨s28,HS28⟩: ∃z,Hid (s7.app [[116,111]]=z):=⟨_,rfl⟩
    have n28:s28.n≤s7.n+2*1:=by rw [←HS28.o,St.app_n];have:=hl28;omega
    have HW28:Hid (WQ P i G b k s28 w28):=by rw [←HS28.o];exact h1
    have HB28:Hid (w28.heap[i]?=some (OI {{h with name:= []} with of_:= []} c d n l)):=hf.blk HB7.o (fun e=>e (.inr rfl))
    have HF28:Hid (FN P w w28):=HF7.o.trans (hf.mono (fun q _ e e2=>e (.inl e2)))
    clear h1 hf
    go_wp2_with fail
    refine (name_any HW28.o HI.o HG.o (h.to_) HB28.o rfl (by exact HO.o.to_) (by omega)).mono ?_
    rintro e w29 (⟨ht,rfl,hf⟩|⟨ts29,ht,rfl,⟨h1,hb⟩,hf⟩)
    ·have ht:name (h.to_)=none:=(by exact ht)
     exact ⟨rfl,.inl ⟨(by show act h=none;unfold act;rw [HT1.o,(show actOf h.of_=ok [natureT] from (if_neg HNA.o).trans (if_pos hc5.out)),(show actWord h=cat ((if h.unit= [] then ok [] else cat (ok [[109,111,118,101,115]]) (amount h.num h.unit))) ((if h.to_= [] then ok [] else cat (ok [[116,111]]) (name h.to_))) from (if_neg (fun e=>e.elim HK2.o HK3.o)).trans (if_pos hc22.out)),if_pos hc23.out,if_neg hc24.out,ht]<;>rfl),rfl,HF28.o.trans hf⟩⟩
    have ht:name (h.to_)=some ts29:=(by exact ht)
    have hl29:ts29.length≤1:=jx7 _ ht
    have HT29:=hdd ht
    obtain ⟨s29,HS29⟩: ∃z,Hid (s28.app ts29=z):=⟨_,rfl⟩
    have n29:s29.n≤s28.n+2*1:=by rw [←HS29.o,St.app_n];have:=hl29;omega
    have HW29:Hid (WQ P i G b k s29 w29):=by rw [←HS29.o];exact h1
    have HB29:Hid (w29.heap[i]?=some (OI {{{h with name:= []} with of_:= []} with to_:= []} c d n l)):=hb
    have HF29:Hid (FN P w w29):=HF28.o.trans hf
    clear hb ht
    clear h1 hf
    have c30:w29.cell? ⟨i,5,none⟩=some (.int .i64 h.word):=jq0 HB29.o _
    have f30:w29.frozen? ⟨i,5,none⟩=false:=jq1 HB29.o _
    obtain ⟨w30,hw30⟩: ∃u,w29.setCell ⟨i,5,none⟩ (.int .i64 0)=u:=⟨_,rfl⟩
    have hf:Fr (fun q=>q=i) w29 w30:=by rw [←hw30];exact (Fr.refl (fun q=>q=i) w29).setb 5 _
    have HB30:Hid (w30.heap[i]?=some (OI {{{{h with name:= []} with of_:= []} with to_:= []} with word:=0} c d n l)):=by rw [←hw30];exact jq9 HB29.o 5 _
    have HW30:Hid (WQ P i G b k s29 w30):=HW29.o.fr hf (fun q e=>⟨.inr e,by have e:q=i:=e;subst e;exact Nat.le_of_not_lt fun h=>HI.o (HG.o _ h)⟩)
    have HF30:Hid (FN P w w30):=HF29.o.trans (hf.mono (fun q _ e e2=>by have e:q=i:=e;subst e;exact HI.o e2))
    clear hf
    have s30_:True:=trivial
    obtain ⟨s30,HS30⟩: ∃z,Hid (s29.app []=z):=⟨_,rfl⟩
    have n30:s30.n≤s29.n:=by rw [←HS30.o];exact Nat.le_refl _
    have HW30:Hid (WQ P i G b k s30 w30):=by rw [←HS30.o];exact HW30.o
    go_wp2_with fail
    refine (jq3 HW30.o [[59]] _ rfl _ _ (by decide) (by show s30.n+2*1≤lim;omega)).mono ?_
    rintro e w31 ⟨rfl,h1,hf⟩
    clear c30 f30 hw30 s30_
    have hl31:([[59]]:List Rs.Bytes).length≤1:=by decide
    obtain ⟨s31,HS31⟩: ∃z,Hid (s30.app [[59]]=z):=⟨_,rfl⟩
    have n31:s31.n≤s30.n+2*1:=by rw [←HS31.o,St.app_n];have:=hl31;omega
    have HW31:Hid (WQ P i G b k s31 w31):=by rw [←HS31.o];exact h1
    have HB31:Hid (w31.heap[i]?=some (OI {{{{h with name:= []} with of_:= []} with to_:= []} with word:=0} c d n l)):=hf.blk HB30.o (fun e=>e (.inr rfl))
    have HF31:Hid (FN P w w31):=HF30.o.trans (hf.mono (fun q _ e e2=>e (.inl e2)))
    clear h1 hf
    go_wp2_with fail
    first|go_end0|refine bodyPost_ret (results_none rfl _ _ _) rfl ?_
    exact .inr ⟨ts1++([[98,121]]++([[110,97,116,117,114,101]]++([]++([[116,111]]++(ts29++([]++([[59]]))))))),(by show act h=some _;unfold act;rw [HT1.o,(show actOf h.of_=ok [natureT] from (if_neg HNA.o).trans (if_pos hc5.out)),(show actWord h=cat ((if h.unit= [] then ok [] else cat (ok [[109,111,118,101,115]]) (amount h.num h.unit))) ((if h.to_= [] then ok [] else cat (ok [[116,111]]) (name h.to_))) from (if_neg (fun e=>e.elim HK2.o HK3.o)).trans (if_pos hc22.out)),if_pos hc23.out,if_neg hc24.out,HT29.o]<;>(first|rfl|simp [cat,ok,natureT,semi])),rfl,⟨(by rw [←St.app_app,HS1.o,←St.app_app,HS2.o,←St.app_app,HS6.o,←St.app_app,HS7.o,←St.app_app,HS28.o,←St.app_app,HS29.o,←St.app_app,HS30.o,HS31.o];exact HW31.o),(by unfold actLeft;rw [if_pos HK1.o,if_pos hc23.out];exact HB31.o)⟩,HF31.o⟩
   have hc23:=hdd hq23
   have cb18:w6.cell? ⟨i,18,none⟩=some (.string ⟨h.unit.toArray⟩):=jq0 HB7.o 18
   have qb18:(h.unit== [])=false:=by simpa using hq23
   have qc18:(h.unit != [])=true:=by simpa using hq23
   have HUN:=hdd hq23
   clear hq23
   go_wp2_with fail
   refine (jq3 HW7.o [[109,111,118,101,115]] _ rfl _ _ (by decide) (by show s7.n+2*1≤lim;omega)).mono ?_
   rintro e w32 ⟨rfl,h1,hf⟩
   clear cb5 cb18 qb18 qc18
   have hl32:([[109,111,118,101,115]]:List Rs.Bytes).length≤1:=by decide
   obtain ⟨s32,HS32⟩: ∃z,Hid (s7.app [[109,111,118,101,115]]=z):=⟨_,rfl⟩
   have n32:s32.n≤s7.n+2*1:=by rw [←HS32.o,St.app_n];have:=hl32;omega
   have HW32:Hid (WQ P i G b k s32 w32):=by rw [←HS32.o];exact h1
   have HB32:Hid (w32.heap[i]?=some (OI {{h with name:= []} with of_:= []} c d n l)):=hf.blk HB7.o (fun e=>e (.inr rfl))
   have HF32:Hid (FN P w w32):=HF7.o.trans (hf.mono (fun q _ e e2=>e (.inl e2)))
   clear h1 hf
   go_wp2_with fail
   refine (kq5 HW32.o HI.o HG.o HB32.o (by cases HO.o;constructor<;>first|assumption|(apply jx8;assumption)|exact Nat.zero_le _) (by omega)).mono ?_
   rintro e w33 (⟨ht,rfl,hf⟩|⟨ts33,ht,rfl,⟨h1,hb⟩,hf⟩)
   ·have ht:amount h.num h.unit=none:=(by exact ht)
    exact ⟨rfl,.inl ⟨(by show act h=none;unfold act;rw [HT1.o,(show actOf h.of_=ok [natureT] from (if_neg HNA.o).trans (if_pos hc5.out)),(show actWord h=cat ((if h.unit= [] then ok [] else cat (ok [[109,111,118,101,115]]) (amount h.num h.unit))) ((if h.to_= [] then ok [] else cat (ok [[116,111]]) (name h.to_))) from (if_neg (fun e=>e.elim HK2.o HK3.o)).trans (if_pos hc22.out)),if_neg hc23.out,ht]<;>rfl),rfl,HF32.o.trans hf⟩⟩
   have ht:amount h.num h.unit=some ts33:=(by exact ht)
   have hl33:ts33.length≤4:=jj5 _ ht
   have HT33:=hdd ht
   obtain ⟨s33,HS33⟩: ∃z,Hid (s32.app ts33=z):=⟨_,rfl⟩
   have n33:s33.n≤s32.n+2*4:=by rw [←HS33.o,St.app_n];have:=hl33;omega
   have HW33:Hid (WQ P i G b k s33 w33):=by rw [←HS33.o];exact h1
   have HB33:Hid (w33.heap[i]?=some (.cells ((Rs.icells (amountLeft ({{h with name:= []} with of_:= []}):Rs.Item) c d n l).toArray) 49 (0,0))):=hb
   have HF33:Hid (FN P w w33):=HF32.o.trans hf
   clear hb ht
   clear h1 hf
   by_cases hq34:h.to_= []
   ·have hc34:=hdd hq34
    have cb22:w33.cell? ⟨i,22,none⟩=some (.string ⟨#[]⟩):=(jq0 HB33.o 22).trans (by show some (sv h.to_)=_;rw [hq34])
    have HTO:=hdd hq34
    clear hq34
    have HB35:Hid (w33.heap[i]?=some (.cells ((Rs.icells ({amountLeft ({{h with name:= []} with of_:= []}) with to_:= []}:Rs.Item) c d n l).toArray) 49 (0,0))):=by
     have hb:=HB33.o
     rw [HTO.o] at hb
     exact hb
    have HW35:=HW33;have HF35:=HF33
    obtain ⟨s35,HS35⟩: ∃z,Hid (s33.app []=z):=⟨_,rfl⟩
    have n35:s35.n≤s33.n:=by rw [←HS35.o];exact Nat.le_refl _
    have HW35:Hid (WQ P i G b k s35 w33):=by rw [←HS35.o];exact HW35.o
    have c36:w33.cell? ⟨i,5,none⟩=some (.int .i64 h.word):=jq0 HB35.o _
    have f36:w33.frozen? ⟨i,5,none⟩=false:=jq1 HB35.o _
    obtain ⟨w36,hw36⟩: ∃u,w33.setCell ⟨i,5,none⟩ (.int .i64 0)=u:=⟨_,rfl⟩
    have hf:Fr (fun q=>q=i) w33 w36:=by rw [←hw36];exact (Fr.refl (fun q=>q=i) w33).setb 5 _
    have HB36:Hid (w36.heap[i]?=some (.cells ((Rs.icells ({{amountLeft ({{h with name:= []} with of_:= []}) with to_:= []} with word:=0}:Rs.Item) c d n l).toArray) 49 (0,0))):=by rw [←hw36];exact jq9 HB35.o 5 _
    have HW36:Hid (WQ P i G b k s35 w36):=HW35.o.fr hf (fun q e=>⟨.inr e,by have e:q=i:=e;subst e;exact Nat.le_of_not_lt fun h=>HI.o (HG.o _ h)⟩)
    have HF36:Hid (FN P w w36):=HF35.o.trans (hf.mono (fun q _ e e2=>by have e:q=i:=e;subst e;exact HI.o e2))
    clear hf
    have s36_:True:=trivial
    obtain ⟨s36,HS36⟩: ∃z,Hid (s35.app []=z):=⟨_,rfl⟩
    have n36:s36.n≤s35.n:=by rw [←HS36.o];exact Nat.le_refl _
    have HW36:Hid (WQ P i G b k s36 w36):=by rw [←HS36.o];exact HW36.o
    go_wp2_with fail
    refine (jq3 HW36.o [[59]] _ rfl _ _ (by decide) (by show s36.n+2*1≤lim;omega)).mono ?_
    rintro e w37 ⟨rfl,h1,hf⟩
    clear cb22 c36 f36 hw36 s36_
    have hl37:([[59]]:List Rs.Bytes).length≤1:=by decide
    obtain ⟨s37,HS37⟩: ∃z,Hid (s36.app [[59]]=z):=⟨_,rfl⟩
    have n37:s37.n≤s36.n+2*1:=by rw [←HS37.o,St.app_n];have:=hl37;omega
    have HW37:Hid (WQ P i G b k s37 w37):=by rw [←HS37.o];exact h1
    have HB37:Hid (w37.heap[i]?=some (.cells ((Rs.icells ({{amountLeft ({{h with name:= []} with of_:= []}) with to_:= []} with word:=0}:Rs.Item) c d n l).toArray) 49 (0,0))):=hf.blk HB36.o (fun e=>e (.inr rfl))
    have HF37:Hid (FN P w w37):=HF36.o.trans (hf.mono (fun q _ e e2=>e (.inl e2)))
    clear h1 hf
    go_wp2_with fail
    first|go_end0|refine bodyPost_ret (results_none rfl _ _ _) rfl ?_
    exact .inr ⟨ts1++([[98,121]]++([[110,97,116,117,114,101]]++([]++([[109,111,118,101,115]]++(ts33++([]++([]++([[59]])))))))),(by show act h=some _;unfold act;rw [HT1.o,(show actOf h.of_=ok [natureT] from (if_neg HNA.o).trans (if_pos hc5.out)),(show actWord h=cat ((if h.unit= [] then ok [] else cat (ok [[109,111,118,101,115]]) (amount h.num h.unit))) ((if h.to_= [] then ok [] else cat (ok [[116,111]]) (name h.to_))) from (if_neg (fun e=>e.elim HK2.o HK3.o)).trans (if_pos hc22.out)),if_neg hc23.out,HT33.o,if_pos hc34.out]<;>(first|rfl|simp [cat,ok,natureT,semi])),rfl,⟨(by rw [←St.app_app,HS1.o,←St.app_app,HS2.o,←St.app_app,HS6.o,←St.app_app,HS7.o,←St.app_app,HS32.o,←St.app_app,HS33.o,←St.app_app,HS35.o,←St.app_app,HS36.o,HS37.o];exact HW37.o),(by unfold actLeft;rw [if_pos HK1.o,if_neg hc23.out];exact HB37.o)⟩,HF37.o⟩
   have hc34:=hdd hq34
   have cb22:w33.cell? ⟨i,22,none⟩=some (.string ⟨h.to_.toArray⟩):=jq0 HB33.o 22
   have qb22:(h.to_== [])=false:=by simpa using hq34
   have qc22:(h.to_ != [])=true:=by simpa using hq34
   have HTO:=hdd hq34
   clear hq34
   go_wp2_with fail
   refine (jq3 HW33.o [[116,111]] _ rfl _ _ (by decide) (by show s33.n+2*1≤lim;omega)).mono ?_
   rintro e w38 ⟨rfl,h1,hf⟩
   clear cb22 qb22 qc22
   have hl38:([[116,111]]:List Rs.Bytes).length≤1:=by decide
   obtain ⟨s38,HS38⟩: ∃z,Hid (s33.app [[116,111]]=z):=⟨_,rfl⟩
   have n38:s38.n≤s33.n+2*1:=by rw [←HS38.o,St.app_n];have:=hl38;omega
   have HW38:Hid (WQ P i G b k s38 w38):=by rw [←HS38.o];exact h1
   have HB38:Hid (w38.heap[i]?=some (.cells ((Rs.icells (amountLeft ({{h with name:= []} with of_:= []}):Rs.Item) c d n l).toArray) 49 (0,0))):=hf.blk HB33.o (fun e=>e (.inr rfl))
   have HF38:Hid (FN P w w38):=HF33.o.trans (hf.mono (fun q _ e e2=>e (.inl e2)))
   clear h1 hf
   go_wp2_with fail
   refine (name_any HW38.o HI.o HG.o (h.to_) HB38.o rfl (by exact HO.o.to_) (by omega)).mono ?_
   rintro e w39 (⟨ht,rfl,hf⟩|⟨ts39,ht,rfl,⟨h1,hb⟩,hf⟩)
   ·have ht:name (h.to_)=none:=(by exact ht)
    exact ⟨rfl,.inl ⟨(by show act h=none;unfold act;rw [HT1.o,(show actOf h.of_=ok [natureT] from (if_neg HNA.o).trans (if_pos hc5.out)),(show actWord h=cat ((if h.unit= [] then ok [] else cat (ok [[109,111,118,101,115]]) (amount h.num h.unit))) ((if h.to_= [] then ok [] else cat (ok [[116,111]]) (name h.to_))) from (if_neg (fun e=>e.elim HK2.o HK3.o)).trans (if_pos hc22.out)),if_neg hc23.out,HT33.o,if_neg hc34.out,ht]<;>rfl),rfl,HF38.o.trans hf⟩⟩
   have ht:name (h.to_)=some ts39:=(by exact ht)
   have hl39:ts39.length≤1:=jx7 _ ht
   have HT39:=hdd ht
   obtain ⟨s39,HS39⟩: ∃z,Hid (s38.app ts39=z):=⟨_,rfl⟩
   have n39:s39.n≤s38.n+2*1:=by rw [←HS39.o,St.app_n];have:=hl39;omega
   have HW39:Hid (WQ P i G b k s39 w39):=by rw [←HS39.o];exact h1
   have HB39:Hid (w39.heap[i]?=some (.cells ((Rs.icells ({amountLeft ({{h with name:= []} with of_:= []}) with to_:= []}:Rs.Item) c d n l).toArray) 49 (0,0))):=hb
   have HF39:Hid (FN P w w39):=HF38.o.trans hf
   clear hb ht
   clear h1 hf
   have c40:w39.cell? ⟨i,5,none⟩=some (.int .i64 h.word):=jq0 HB39.o _
   have f40:w39.frozen? ⟨i,5,none⟩=false:=jq1 HB39.o _
   obtain ⟨w40,hw40⟩: ∃u,w39.setCell ⟨i,5,none⟩ (.int .i64 0)=u:=⟨_,rfl⟩
   have hf:Fr (fun q=>q=i) w39 w40:=by rw [←hw40];exact (Fr.refl (fun q=>q=i) w39).setb 5 _
   have HB40:Hid (w40.heap[i]?=some (.cells ((Rs.icells ({{amountLeft ({{h with name:= []} with of_:= []}) with to_:= []} with word:=0}:Rs.Item) c d n l).toArray) 49 (0,0))):=by rw [←hw40];exact jq9 HB39.o 5 _
   have HW40:Hid (WQ P i G b k s39 w40):=HW39.o.fr hf (fun q e=>⟨.inr e,by have e:q=i:=e;subst e;exact Nat.le_of_not_lt fun h=>HI.o (HG.o _ h)⟩)
   have HF40:Hid (FN P w w40):=HF39.o.trans (hf.mono (fun q _ e e2=>by have e:q=i:=e;subst e;exact HI.o e2))
   clear hf
   have s40_:True:=trivial
   obtain ⟨s40,HS40⟩: ∃z,Hid (s39.app []=z):=⟨_,rfl⟩
   have n40:s40.n≤s39.n:=by rw [←HS40.o];exact Nat.le_refl _
   have HW40:Hid (WQ P i G b k s40 w40):=by rw [←HS40.o];exact HW40.o
   go_wp2_with fail
   refine (jq3 HW40.o [[59]] _ rfl _ _ (by decide) (by show s40.n+2*1≤lim;omega)).mono ?_
   rintro e w41 ⟨rfl,h1,hf⟩
   clear c40 f40 hw40 s40_
   have hl41:([[59]]:List Rs.Bytes).length≤1:=by decide
   obtain ⟨s41,HS41⟩: ∃z,Hid (s40.app [[59]]=z):=⟨_,rfl⟩
   have n41:s41.n≤s40.n+2*1:=by rw [←HS41.o,St.app_n];have:=hl41;omega
   have HW41:Hid (WQ P i G b k s41 w41):=by rw [←HS41.o];exact h1
   have HB41:Hid (w41.heap[i]?=some (.cells ((Rs.icells ({{amountLeft ({{h with name:= []} with of_:= []}) with to_:= []} with word:=0}:Rs.Item) c d n l).toArray) 49 (0,0))):=hf.blk HB40.o (fun e=>e (.inr rfl))
   have HF41:Hid (FN P w w41):=HF40.o.trans (hf.mono (fun q _ e e2=>e (.inl e2)))
   clear h1 hf
   go_wp2_with fail
   first|go_end0|refine bodyPost_ret (results_none rfl _ _ _) rfl ?_
   exact .inr ⟨ts1++([[98,121]]++([[110,97,116,117,114,101]]++([]++([[109,111,118,101,115]]++(ts33++([[116,111]]++(ts39++([]++([[59]]))))))))),(by show act h=some _;unfold act;rw [HT1.o,(show actOf h.of_=ok [natureT] from (if_neg HNA.o).trans (if_pos hc5.out)),(show actWord h=cat ((if h.unit= [] then ok [] else cat (ok [[109,111,118,101,115]]) (amount h.num h.unit))) ((if h.to_= [] then ok [] else cat (ok [[116,111]]) (name h.to_))) from (if_neg (fun e=>e.elim HK2.o HK3.o)).trans (if_pos hc22.out)),if_neg hc23.out,HT33.o,if_neg hc34.out,HT39.o]<;>(first|rfl|simp [cat,ok,natureT,semi])),rfl,⟨(by rw [←St.app_app,HS1.o,←St.app_app,HS2.o,←St.app_app,HS6.o,←St.app_app,HS7.o,←St.app_app,HS32.o,←St.app_app,HS33.o,←St.app_app,HS38.o,←St.app_app,HS39.o,←St.app_app,HS40.o,HS41.o];exact HW41.o),(by unfold actLeft;rw [if_pos HK1.o,if_neg hc23.out];exact HB41.o)⟩,HF41.o⟩
  have hc22:=hdd hq22
  have cb5:w6.cell? ⟨i,5,none⟩=some (.int .i64 h.word):=jq0 HB7.o 5
  have qa1:(h.word==1)=false:=beq_eq_false_iff_ne.2 hq22
  have qa2:(h.word==2)=false:=beq_eq_false_iff_ne.2 HK2.o
  have qa3:(h.word==3)=false:=beq_eq_false_iff_ne.2 HK3.o
  clear hq22
  go_wp2_with fail
  exact ⟨rfl,.inl ⟨(by show act h=none;unfold act;rw [HT1.o,(show actOf h.of_=ok [natureT] from (if_neg HNA.o).trans (if_pos hc5.out)),(show actWord h=none from (if_neg (fun e=>e.elim HK2.o HK3.o)).trans (if_neg hc22.out))]<;>rfl),rfl,HF7.o⟩⟩
 have hc5:=hdd hq5
 have cb3:w2.cell? ⟨i,3,none⟩=some (.string ⟨h.of_.toArray⟩):=jq0 HB2.o 3
 have qb3:(h.of_== [])=false:=by simpa using hq5
 clear hq5
 go_wp2_with fail
 refine (name_any HW2.o HI.o HG.o (h.of_) HB2.o rfl (by exact HO.o.of_) (by omega)).mono ?_
 rintro e w43 (⟨ht,rfl,hf⟩|⟨ts43,ht,rfl,⟨h1,hb⟩,hf⟩)
 ·have ht:name (h.of_)=none:=(by exact ht)
  exact ⟨rfl,.inl ⟨(by show act h=none;unfold act;rw [HT1.o,(show actOf h.of_=name h.of_ from (if_neg HNA.o).trans (if_neg hc5.out)),ht]<;>rfl),rfl,HF2.o.trans hf⟩⟩
 have ht:name (h.of_)=some ts43:=(by exact ht)
 clear qn3 cb3 qb3
 have hl43:ts43.length≤1:=jx7 _ ht
 have HT43:=hdd ht
 obtain ⟨s43,HS43⟩: ∃z,Hid (s2.app ts43=z):=⟨_,rfl⟩
 have n43:s43.n≤s2.n+2*1:=by rw [←HS43.o,St.app_n];have:=hl43;omega
 have HW43:Hid (WQ P i G b k s43 w43):=by rw [←HS43.o];exact h1
 have HB43:Hid (w43.heap[i]?=some (OI {{h with name:= []} with of_:= []} c d n l)):=hb
 have HF43:Hid (FN P w w43):=HF2.o.trans hf
 clear hb ht
 clear h1 hf
 by_cases hq44:h.word=2
 ·have hc44:=hdd hq44
  have cb5:w43.cell? ⟨i,5,none⟩=some (.int .i64 2):=(jq0 HB43.o 5).trans (by show some (Value.int .i64 h.word)=_;rw [hq44])
  have HK2:=hdd hq44
  clear hq44
  go_wp2_with fail
  refine (jq3 HW43.o [[97,115,115,105,103,110,115]] _ rfl _ _ (by decide) (by show s43.n+2*1≤lim;omega)).mono ?_
  rintro e w45 ⟨rfl,h1,hf⟩
  clear cb5
  have hl45:([[97,115,115,105,103,110,115]]:List Rs.Bytes).length≤1:=by decide
  obtain ⟨s45,HS45⟩: ∃z,Hid (s43.app [[97,115,115,105,103,110,115]]=z):=⟨_,rfl⟩
  have n45:s45.n≤s43.n+2*1:=by rw [←HS45.o,St.app_n];have:=hl45;omega
  have HW45:Hid (WQ P i G b k s45 w45):=by rw [←HS45.o];exact h1
  have HB45:Hid (w45.heap[i]?=some (OI {{h with name:= []} with of_:= []} c d n l)):=hf.blk HB43.o (fun e=>e (.inr rfl))
  have HF45:Hid (FN P w w45):=HF43.o.trans (hf.mono (fun q _ e e2=>e (.inl e2)))
  clear h1 hf
  go_wp2_with fail
  refine (name_any HW45.o HI.o HG.o (h.give) HB45.o rfl (by exact HO.o.give) (by omega)).mono ?_
  rintro e w46 (⟨ht,rfl,hf⟩|⟨ts46,ht,rfl,⟨h1,hb⟩,hf⟩)
  ·have ht:name (h.give)=none:=(by exact ht)
   exact ⟨rfl,.inl ⟨(by show act h=none;unfold act;rw [HT1.o,(show actOf h.of_=name h.of_ from (if_neg HNA.o).trans (if_neg hc5.out)),HT43.o,(show actWord h=cat (ok [[97,115,115,105,103,110,115]]) (cat (name h.give) (cat (ok [[116,111]]) (name h.to_))) from (if_pos (.inl hc44.out)).trans (by rw [if_pos hc44.out])),ht]<;>rfl),rfl,HF45.o.trans hf⟩⟩
  have ht:name (h.give)=some ts46:=(by exact ht)
  have hl46:ts46.length≤1:=jx7 _ ht
  have HT46:=hdd ht
  obtain ⟨s46,HS46⟩: ∃z,Hid (s45.app ts46=z):=⟨_,rfl⟩
  have n46:s46.n≤s45.n+2*1:=by rw [←HS46.o,St.app_n];have:=hl46;omega
  have HW46:Hid (WQ P i G b k s46 w46):=by rw [←HS46.o];exact h1
  have HB46:Hid (w46.heap[i]?=some (OI {{{h with name:= []} with of_:= []} with give:= []} c d n l)):=hb
  have HF46:Hid (FN P w w46):=HF45.o.trans hf
  clear hb ht
  clear h1 hf
  go_wp2_with fail
  refine (jq3 HW46.o [[116,111]] _ rfl _ _ (by decide) (by show s46.n+2*1≤lim;omega)).mono ?_
  rintro e w47 ⟨rfl,h1,hf⟩
  have hl47:([[116,111]]:List Rs.Bytes).length≤1:=by decide
  obtain ⟨s47,HS47⟩: ∃z,Hid (s46.app [[116,111]]=z):=⟨_,rfl⟩
  have n47:s47.n≤s46.n+2*1:=by rw [←HS47.o,St.app_n];have:=hl47;omega
  have HW47:Hid (WQ P i G b k s47 w47):=by rw [←HS47.o];exact h1
  have HB47:Hid (w47.heap[i]?=some (OI {{{h with name:= []} with of_:= []} with give:= []} c d n l)):=hf.blk HB46.o (fun e=>e (.inr rfl))
  have HF47:Hid (FN P w w47):=HF46.o.trans (hf.mono (fun q _ e e2=>e (.inl e2)))
  clear h1 hf
  go_wp2_with fail
  refine (name_any HW47.o HI.o HG.o (h.to_) HB47.o rfl (by exact HO.o.to_) (by omega)).mono ?_
  rintro e w48 (⟨ht,rfl,hf⟩|⟨ts48,ht,rfl,⟨h1,hb⟩,hf⟩)
  ·have ht:name (h.to_)=none:=(by exact ht)
   exact ⟨rfl,.inl ⟨(by show act h=none;unfold act;rw [HT1.o,(show actOf h.of_=name h.of_ from (if_neg HNA.o).trans (if_neg hc5.out)),HT43.o,(show actWord h=cat (ok [[97,115,115,105,103,110,115]]) (cat (name h.give) (cat (ok [[116,111]]) (name h.to_))) from (if_pos (.inl hc44.out)).trans (by rw [if_pos hc44.out])),HT46.o,ht]<;>rfl),rfl,HF47.o.trans hf⟩⟩
  have ht:name (h.to_)=some ts48:=(by exact ht)
  have hl48:ts48.length≤1:=jx7 _ ht
  have HT48:=hdd ht
  obtain ⟨s48,HS48⟩: ∃z,Hid (s47.app ts48=z):=⟨_,rfl⟩
  have n48:s48.n≤s47.n+2*1:=by rw [←HS48.o,St.app_n];have:=hl48;omega
  have HW48:Hid (WQ P i G b k s48 w48):=by rw [←HS48.o];exact h1
  have HB48:Hid (w48.heap[i]?=some (OI {{{{h with name:= []} with of_:= []} with give:= []} with to_:= []} c d n l)):=hb
  have HF48:Hid (FN P w w48):=HF47.o.trans hf
  clear hb ht
  clear h1 hf
  have c49:w48.cell? ⟨i,5,none⟩=some (.int .i64 h.word):=jq0 HB48.o _
  have f49:w48.frozen? ⟨i,5,none⟩=false:=jq1 HB48.o _
  obtain ⟨w49,hw49⟩: ∃u,w48.setCell ⟨i,5,none⟩ (.int .i64 0)=u:=⟨_,rfl⟩
  have hf:Fr (fun q=>q=i) w48 w49:=by rw [←hw49];exact (Fr.refl (fun q=>q=i) w48).setb 5 _
  have HB49:Hid (w49.heap[i]?=some (OI {{{{{h with name:= []} with of_:= []} with give:= []} with to_:= []} with word:=0} c d n l)):=by rw [←hw49];exact jq9 HB48.o 5 _
  have HW49:Hid (WQ P i G b k s48 w49):=HW48.o.fr hf (fun q e=>⟨.inr e,by have e:q=i:=e;subst e;exact Nat.le_of_not_lt fun h=>HI.o (HG.o _ h)⟩)
  have HF49:Hid (FN P w w49):=HF48.o.trans (hf.mono (fun q _ e e2=>by have e:q=i:=e;subst e;exact HI.o e2))
  clear hf
  have s49_:True:=trivial
  obtain ⟨s49,HS49⟩: ∃z,Hid (s48.app []=z):=⟨_,rfl⟩
  have n49:s49.n≤s48.n:=by rw [←HS49.o];exact Nat.le_refl _
  have HW49:Hid (WQ P i G b k s49 w49):=by rw [←HS49.o];exact HW49.o
  go_wp2_with fail
  refine (jq3 HW49.o [[59]] _ rfl _ _ (by decide) (by show s49.n+2*1≤lim;omega)).mono ?_
  rintro e w50 ⟨rfl,h1,hf⟩
  clear c49 f49 hw49 s49_
  have hl50:([[59]]:List Rs.Bytes).length≤1:=by decide
  obtain ⟨s50,HS50⟩: ∃z,Hid (s49.app [[59]]=z):=⟨_,rfl⟩
  have n50:s50.n≤s49.n+2*1:=by rw [←HS50.o,St.app_n];have:=hl50;omega
  have HW50:Hid (WQ P i G b k s50 w50):=by rw [←HS50.o];exact h1
  have HB50:Hid (w50.heap[i]?=some (OI {{{{{h with name:= []} with of_:= []} with give:= []} with to_:= []} with word:=0} c d n l)):=hf.blk HB49.o (fun e=>e (.inr rfl))
  have HF50:Hid (FN P w w50):=HF49.o.trans (hf.mono (fun q _ e e2=>e (.inl e2)))
  clear h1 hf
  go_wp2_with fail
  first|go_end0|refine bodyPost_ret (results_none rfl _ _ _) rfl ?_
  exact .inr ⟨ts1++([[98,121]]++(ts43++([[97,115,115,105,103,110,115]]++(ts46++([[116,111]]++(ts48++([]++([[59]])))))))),(by show act h=some _;unfold act;rw [HT1.o,(show actOf h.of_=name h.of_ from (if_neg HNA.o).trans (if_neg hc5.out)),HT43.o,(show actWord h=cat (ok [[97,115,115,105,103,110,115]]) (cat (name h.give) (cat (ok [[116,111]]) (name h.to_))) from (if_pos (.inl hc44.out)).trans (by rw [if_pos hc44.out])),HT46.o,HT48.o]<;>(first|rfl|simp [cat,ok,natureT,semi])),rfl,⟨(by rw [←St.app_app,HS1.o,←St.app_app,HS2.o,←St.app_app,HS43.o,←St.app_app,HS45.o,←St.app_app,HS46.o,←St.app_app,HS47.o,←St.app_app,HS48.o,←St.app_app,HS49.o,HS50.o];exact HW50.o),(by unfold actLeft;rw [if_neg (by rw [hc44.out];decide)];exact HB50.o)⟩,HF50.o⟩
 have hc44:=hdd hq44
 have HK2:=hdd hq44
 clear hq44
 by_cases hq51:h.word=3
 ·have hc51:=hdd hq51
  have cb5:w43.cell? ⟨i,5,none⟩=some (.int .i64 3):=(jq0 HB43.o 5).trans (by show some (Value.int .i64 h.word)=_;rw [hq51])
  have HK3:=hdd hq51
  clear hq51
  go_wp2_with fail
  refine (jq3 HW43.o [[110,111,118,97,116,101,115]] _ rfl _ _ (by decide) (by show s43.n+2*1≤lim;omega)).mono ?_
  rintro e w52 ⟨rfl,h1,hf⟩
  clear cb5
  have hl52:([[110,111,118,97,116,101,115]]:List Rs.Bytes).length≤1:=by decide
  obtain ⟨s52,HS52⟩: ∃z,Hid (s43.app [[110,111,118,97,116,101,115]]=z):=⟨_,rfl⟩
  have n52:s52.n≤s43.n+2*1:=by rw [←HS52.o,St.app_n];have:=hl52;omega
  have HW52:Hid (WQ P i G b k s52 w52):=by rw [←HS52.o];exact h1
  have HB52:Hid (w52.heap[i]?=some (OI {{h with name:= []} with of_:= []} c d n l)):=hf.blk HB43.o (fun e=>e (.inr rfl))
  have HF52:Hid (FN P w w52):=HF43.o.trans (hf.mono (fun q _ e e2=>e (.inl e2)))
  clear h1 hf
  go_wp2_with fail
  refine (name_any HW52.o HI.o HG.o (h.give) HB52.o rfl (by exact HO.o.give) (by omega)).mono ?_
  rintro e w53 (⟨ht,rfl,hf⟩|⟨ts53,ht,rfl,⟨h1,hb⟩,hf⟩)
  ·have ht:name (h.give)=none:=(by exact ht)
   exact ⟨rfl,.inl ⟨(by show act h=none;unfold act;rw [HT1.o,(show actOf h.of_=name h.of_ from (if_neg HNA.o).trans (if_neg hc5.out)),HT43.o,(show actWord h=cat (ok [[110,111,118,97,116,101,115]]) (cat (name h.give) (cat (ok [[116,111]]) (name h.to_))) from (if_pos (.inr hc51.out)).trans (by rw [if_neg HK2.o])),ht]<;>rfl),rfl,HF52.o.trans hf⟩⟩
  have ht:name (h.give)=some ts53:=(by exact ht)
  have hl53:ts53.length≤1:=jx7 _ ht
  have HT53:=hdd ht
  obtain ⟨s53,HS53⟩: ∃z,Hid (s52.app ts53=z):=⟨_,rfl⟩
  have n53:s53.n≤s52.n+2*1:=by rw [←HS53.o,St.app_n];have:=hl53;omega
  have HW53:Hid (WQ P i G b k s53 w53):=by rw [←HS53.o];exact h1
  have HB53:Hid (w53.heap[i]?=some (OI {{{h with name:= []} with of_:= []} with give:= []} c d n l)):=hb
  have HF53:Hid (FN P w w53):=HF52.o.trans hf
  clear hb ht
  clear h1 hf
  go_wp2_with fail
  refine (jq3 HW53.o [[116,111]] _ rfl _ _ (by decide) (by show s53.n+2*1≤lim;omega)).mono ?_
  rintro e w54 ⟨rfl,h1,hf⟩
  have hl54:([[116,111]]:List Rs.Bytes).length≤1:=by decide
  obtain ⟨s54,HS54⟩: ∃z,Hid (s53.app [[116,111]]=z):=⟨_,rfl⟩
  have n54:s54.n≤s53.n+2*1:=by rw [←HS54.o,St.app_n];have:=hl54;omega
  have HW54:Hid (WQ P i G b k s54 w54):=by rw [←HS54.o];exact h1
  have HB54:Hid (w54.heap[i]?=some (OI {{{h with name:= []} with of_:= []} with give:= []} c d n l)):=hf.blk HB53.o (fun e=>e (.inr rfl))
  have HF54:Hid (FN P w w54):=HF53.o.trans (hf.mono (fun q _ e e2=>e (.inl e2)))
  clear h1 hf
  go_wp2_with fail
  refine (name_any HW54.o HI.o HG.o (h.to_) HB54.o rfl (by exact HO.o.to_) (by omega)).mono ?_
  rintro e w55 (⟨ht,rfl,hf⟩|⟨ts55,ht,rfl,⟨h1,hb⟩,hf⟩)
  ·have ht:name (h.to_)=none:=(by exact ht)
   exact ⟨rfl,.inl ⟨(by show act h=none;unfold act;rw [HT1.o,(show actOf h.of_=name h.of_ from (if_neg HNA.o).trans (if_neg hc5.out)),HT43.o,(show actWord h=cat (ok [[110,111,118,97,116,101,115]]) (cat (name h.give) (cat (ok [[116,111]]) (name h.to_))) from (if_pos (.inr hc51.out)).trans (by rw [if_neg HK2.o])),HT53.o,ht]<;>rfl),rfl,HF54.o.trans hf⟩⟩
  have ht:name (h.to_)=some ts55:=(by exact ht)
  have hl55:ts55.length≤1:=jx7 _ ht
  have HT55:=hdd ht
  obtain ⟨s55,HS55⟩: ∃z,Hid (s54.app ts55=z):=⟨_,rfl⟩
  have n55:s55.n≤s54.n+2*1:=by rw [←HS55.o,St.app_n];have:=hl55;omega
  have HW55:Hid (WQ P i G b k s55 w55):=by rw [←HS55.o];exact h1
  have HB55:Hid (w55.heap[i]?=some (OI {{{{h with name:= []} with of_:= []} with give:= []} with to_:= []} c d n l)):=hb
  have HF55:Hid (FN P w w55):=HF54.o.trans hf
  clear hb ht
  clear h1 hf
  have c56:w55.cell? ⟨i,5,none⟩=some (.int .i64 h.word):=jq0 HB55.o _
  have f56:w55.frozen? ⟨i,5,none⟩=false:=jq1 HB55.o _
  obtain ⟨w56,hw56⟩: ∃u,w55.setCell ⟨i,5,none⟩ (.int .i64 0)=u:=⟨_,rfl⟩
  have hf:Fr (fun q=>q=i) w55 w56:=by rw [←hw56];exact (Fr.refl (fun q=>q=i) w55).setb 5 _
  have HB56:Hid (w56.heap[i]?=some (OI {{{{{h with name:= []} with of_:= []} with give:= []} with to_:= []} with word:=0} c d n l)):=by rw [←hw56];exact jq9 HB55.o 5 _
  have HW56:Hid (WQ P i G b k s55 w56):=HW55.o.fr hf (fun q e=>⟨.inr e,by have e:q=i:=e;subst e;exact Nat.le_of_not_lt fun h=>HI.o (HG.o _ h)⟩)
  have HF56:Hid (FN P w w56):=HF55.o.trans (hf.mono (fun q _ e e2=>by have e:q=i:=e;subst e;exact HI.o e2))
  clear hf
  have s56_:True:=trivial
  obtain ⟨s56,HS56⟩: ∃z,Hid (s55.app []=z):=⟨_,rfl⟩
  have n56:s56.n≤s55.n:=by rw [←HS56.o];exact Nat.le_refl _
  have HW56:Hid (WQ P i G b k s56 w56):=by rw [←HS56.o];exact HW56.o
  go_wp2_with fail
  refine (jq3 HW56.o [[59]] _ rfl _ _ (by decide) (by show s56.n+2*1≤lim;omega)).mono ?_
  rintro e w57 ⟨rfl,h1,hf⟩
  clear c56 f56 hw56 s56_
  have hl57:([[59]]:List Rs.Bytes).length≤1:=by decide
  obtain ⟨s57,HS57⟩: ∃z,Hid (s56.app [[59]]=z):=⟨_,rfl⟩
  have n57:s57.n≤s56.n+2*1:=by rw [←HS57.o,St.app_n];have:=hl57;omega
  have HW57:Hid (WQ P i G b k s57 w57):=by rw [←HS57.o];exact h1
  have HB57:Hid (w57.heap[i]?=some (OI {{{{{h with name:= []} with of_:= []} with give:= []} with to_:= []} with word:=0} c d n l)):=hf.blk HB56.o (fun e=>e (.inr rfl))
  have HF57:Hid (FN P w w57):=HF56.o.trans (hf.mono (fun q _ e e2=>e (.inl e2)))
  clear h1 hf
  go_wp2_with fail
  first|go_end0|refine bodyPost_ret (results_none rfl _ _ _) rfl ?_
  exact .inr ⟨ts1++([[98,121]]++(ts43++([[110,111,118,97,116,101,115]]++(ts53++([[116,111]]++(ts55++([]++([[59]])))))))),(by show act h=some _;unfold act;rw [HT1.o,(show actOf h.of_=name h.of_ from (if_neg HNA.o).trans (if_neg hc5.out)),HT43.o,(show actWord h=cat (ok [[110,111,118,97,116,101,115]]) (cat (name h.give) (cat (ok [[116,111]]) (name h.to_))) from (if_pos (.inr hc51.out)).trans (by rw [if_neg HK2.o])),HT53.o,HT55.o]<;>(first|rfl|simp [cat,ok,natureT,semi])),rfl,⟨(by rw [←St.app_app,HS1.o,←St.app_app,HS2.o,←St.app_app,HS43.o,←St.app_app,HS52.o,←St.app_app,HS53.o,←St.app_app,HS54.o,←St.app_app,HS55.o,←St.app_app,HS56.o,HS57.o];exact HW57.o),(by unfold actLeft;rw [if_neg (by rw [hc51.out];decide)];exact HB57.o)⟩,HF57.o⟩
 have hc51:=hdd hq51
 have HK3:=hdd hq51
 clear hq51
 by_cases hq58:h.word=1
 ·have hc58:=hdd hq58
  have cb5:w43.cell? ⟨i,5,none⟩=some (.int .i64 1):=(jq0 HB43.o 5).trans (by show some (Value.int .i64 h.word)=_;rw [hq58])
  have HK1:=hdd hq58
  clear hq58
  by_cases hq59:h.unit= []
  ·have hc59:=hdd hq59
   have cb18:w43.cell? ⟨i,18,none⟩=some (.string ⟨#[]⟩):=(jq0 HB43.o 18).trans (by show some (sv h.unit)=_;rw [hq59])
   have HUN:=hdd hq59
   clear hq59
   by_cases hq60:h.to_= []
   ·have hc60:=hdd hq60
    have cb22:w43.cell? ⟨i,22,none⟩=some (.string ⟨#[]⟩):=(jq0 HB43.o 22).trans (by show some (sv h.to_)=_;rw [hq60])
    have HTO:=hdd hq60
    clear hq60
    have HB61:Hid (w43.heap[i]?=some (OI {{{h with name:= []} with of_:= []} with to_:= []} c d n l)):=by
     have hb:=HB43.o
     rw [HTO.o] at hb
     exact hb
    have HW61:=HW43;have HF61:=HF43
    obtain ⟨s61,HS61⟩: ∃z,Hid (s43.app []=z):=⟨_,rfl⟩
    have n61:s61.n≤s43.n:=by rw [←HS61.o];exact Nat.le_refl _
    have HW61:Hid (WQ P i G b k s61 w43):=by rw [←HS61.o];exact HW61.o
    have c62:w43.cell? ⟨i,5,none⟩=some (.int .i64 h.word):=jq0 HB61.o _
    have f62:w43.frozen? ⟨i,5,none⟩=false:=jq1 HB61.o _
    obtain ⟨w62,hw62⟩: ∃u,w43.setCell ⟨i,5,none⟩ (.int .i64 0)=u:=⟨_,rfl⟩
    have hf:Fr (fun q=>q=i) w43 w62:=by rw [←hw62];exact (Fr.refl (fun q=>q=i) w43).setb 5 _
    have HB62:Hid (w62.heap[i]?=some (OI {{{{h with name:= []} with of_:= []} with to_:= []} with word:=0} c d n l)):=by rw [←hw62];exact jq9 HB61.o 5 _
    have HW62:Hid (WQ P i G b k s61 w62):=HW61.o.fr hf (fun q e=>⟨.inr e,by have e:q=i:=e;subst e;exact Nat.le_of_not_lt fun h=>HI.o (HG.o _ h)⟩)
    have HF62:Hid (FN P w w62):=HF61.o.trans (hf.mono (fun q _ e e2=>by have e:q=i:=e;subst e;exact HI.o e2))
    clear hf
    have s62_:True:=trivial
    obtain ⟨s62,HS62⟩: ∃z,Hid (s61.app []=z):=⟨_,rfl⟩
    have n62:s62.n≤s61.n:=by rw [←HS62.o];exact Nat.le_refl _
    have HW62:Hid (WQ P i G b k s62 w62):=by rw [←HS62.o];exact HW62.o
    go_wp2_with fail
    refine (jq3 HW62.o [[59]] _ rfl _ _ (by decide) (by show s62.n+2*1≤lim;omega)).mono ?_
    rintro e w63 ⟨rfl,h1,hf⟩
    clear cb5 cb18 cb22 c62 f62 hw62 s62_
    have hl63:([[59]]:List Rs.Bytes).length≤1:=by decide
    obtain ⟨s63,HS63⟩: ∃z,Hid (s62.app [[59]]=z):=⟨_,rfl⟩
    have n63:s63.n≤s62.n+2*1:=by rw [←HS63.o,St.app_n];have:=hl63;omega
    have HW63:Hid (WQ P i G b k s63 w63):=by rw [←HS63.o];exact h1
    have HB63:Hid (w63.heap[i]?=some (OI {{{{h with name:= []} with of_:= []} with to_:= []} with word:=0} c d n l)):=hf.blk HB62.o (fun e=>e (.inr rfl))
    have HF63:Hid (FN P w w63):=HF62.o.trans (hf.mono (fun q _ e e2=>e (.inl e2)))
    clear h1 hf
    go_wp2_with fail
    first|go_end0|refine bodyPost_ret (results_none rfl _ _ _) rfl ?_
    exact .inr ⟨ts1++([[98,121]]++(ts43++([]++([]++([[59]]))))),(by show act h=some _;unfold act;rw [HT1.o,(show actOf h.of_=name h.of_ from (if_neg HNA.o).trans (if_neg hc5.out)),HT43.o,(show actWord h=cat ((if h.unit= [] then ok [] else cat (ok [[109,111,118,101,115]]) (amount h.num h.unit))) ((if h.to_= [] then ok [] else cat (ok [[116,111]]) (name h.to_))) from (if_neg (fun e=>e.elim HK2.o HK3.o)).trans (if_pos hc58.out)),if_pos hc59.out,if_pos hc60.out]<;>(first|rfl|simp [cat,ok,natureT,semi])),rfl,⟨(by rw [←St.app_app,HS1.o,←St.app_app,HS2.o,←St.app_app,HS43.o,←St.app_app,HS61.o,←St.app_app,HS62.o,HS63.o];exact HW63.o),(by unfold actLeft;rw [if_pos HK1.o,if_pos hc59.out];exact HB63.o)⟩,HF63.o⟩
   have hc60:=hdd hq60
   have cb22:w43.cell? ⟨i,22,none⟩=some (.string ⟨h.to_.toArray⟩):=jq0 HB43.o 22
   have qb22:(h.to_== [])=false:=by simpa using hq60
   have qc22:(h.to_ != [])=true:=by simpa using hq60
   have HTO:=hdd hq60
   clear hq60
   go_wp2_with fail
   refine (jq3 HW43.o [[116,111]] _ rfl _ _ (by decide) (by show s43.n+2*1≤lim;omega)).mono ?_
   rintro e w64 ⟨rfl,h1,hf⟩
   clear cb5 cb18 cb22 qb22 qc22
   have hl64:([[116,111]]:List Rs.Bytes).length≤1:=by decide
   obtain ⟨s64,HS64⟩: ∃z,Hid (s43.app [[116,111]]=z):=⟨_,rfl⟩
   have n64:s64.n≤s43.n+2*1:=by rw [←HS64.o,St.app_n];have:=hl64;omega
   have HW64:Hid (WQ P i G b k s64 w64):=by rw [←HS64.o];exact h1
   have HB64:Hid (w64.heap[i]?=some (OI {{h with name:= []} with of_:= []} c d n l)):=hf.blk HB43.o (fun e=>e (.inr rfl))
   have HF64:Hid (FN P w w64):=HF43.o.trans (hf.mono (fun q _ e e2=>e (.inl e2)))
   clear h1 hf
   go_wp2_with fail
   refine (name_any HW64.o HI.o HG.o (h.to_) HB64.o rfl (by exact HO.o.to_) (by omega)).mono ?_
   rintro e w65 (⟨ht,rfl,hf⟩|⟨ts65,ht,rfl,⟨h1,hb⟩,hf⟩)
   ·have ht:name (h.to_)=none:=(by exact ht)
    exact ⟨rfl,.inl ⟨(by show act h=none;unfold act;rw [HT1.o,(show actOf h.of_=name h.of_ from (if_neg HNA.o).trans (if_neg hc5.out)),HT43.o,(show actWord h=cat ((if h.unit= [] then ok [] else cat (ok [[109,111,118,101,115]]) (amount h.num h.unit))) ((if h.to_= [] then ok [] else cat (ok [[116,111]]) (name h.to_))) from (if_neg (fun e=>e.elim HK2.o HK3.o)).trans (if_pos hc58.out)),if_pos hc59.out,if_neg hc60.out,ht]<;>rfl),rfl,HF64.o.trans hf⟩⟩
   have ht:name (h.to_)=some ts65:=(by exact ht)
   have hl65:ts65.length≤1:=jx7 _ ht
   have HT65:=hdd ht
   obtain ⟨s65,HS65⟩: ∃z,Hid (s64.app ts65=z):=⟨_,rfl⟩
   have n65:s65.n≤s64.n+2*1:=by rw [←HS65.o,St.app_n];have:=hl65;omega
   have HW65:Hid (WQ P i G b k s65 w65):=by rw [←HS65.o];exact h1
   have HB65:Hid (w65.heap[i]?=some (OI {{{h with name:= []} with of_:= []} with to_:= []} c d n l)):=hb
   have HF65:Hid (FN P w w65):=HF64.o.trans hf
   clear hb ht
   clear h1 hf
   have c66:w65.cell? ⟨i,5,none⟩=some (.int .i64 h.word):=jq0 HB65.o _
   have f66:w65.frozen? ⟨i,5,none⟩=false:=jq1 HB65.o _
   obtain ⟨w66,hw66⟩: ∃u,w65.setCell ⟨i,5,none⟩ (.int .i64 0)=u:=⟨_,rfl⟩
   have hf:Fr (fun q=>q=i) w65 w66:=by rw [←hw66];exact (Fr.refl (fun q=>q=i) w65).setb 5 _
   have HB66:Hid (w66.heap[i]?=some (OI {{{{h with name:= []} with of_:= []} with to_:= []} with word:=0} c d n l)):=by rw [←hw66];exact jq9 HB65.o 5 _
   have HW66:Hid (WQ P i G b k s65 w66):=HW65.o.fr hf (fun q e=>⟨.inr e,by have e:q=i:=e;subst e;exact Nat.le_of_not_lt fun h=>HI.o (HG.o _ h)⟩)
   have HF66:Hid (FN P w w66):=HF65.o.trans (hf.mono (fun q _ e e2=>by have e:q=i:=e;subst e;exact HI.o e2))
   clear hf
   have s66_:True:=trivial
   obtain ⟨s66,HS66⟩: ∃z,Hid (s65.app []=z):=⟨_,rfl⟩
   have n66:s66.n≤s65.n:=by rw [←HS66.o];exact Nat.le_refl _
   have HW66:Hid (WQ P i G b k s66 w66):=by rw [←HS66.o];exact HW66.o
   go_wp2_with fail
   refine (jq3 HW66.o [[59]] _ rfl _ _ (by decide) (by show s66.n+2*1≤lim;omega)).mono ?_
   rintro e w67 ⟨rfl,h1,hf⟩
   clear c66 f66 hw66 s66_
   have hl67:([[59]]:List Rs.Bytes).length≤1:=by decide
   obtain ⟨s67,HS67⟩: ∃z,Hid (s66.app [[59]]=z):=⟨_,rfl⟩
   have n67:s67.n≤s66.n+2*1:=by rw [←HS67.o,St.app_n];have:=hl67;omega
   have HW67:Hid (WQ P i G b k s67 w67):=by rw [←HS67.o];exact h1
   have HB67:Hid (w67.heap[i]?=some (OI {{{{h with name:= []} with of_:= []} with to_:= []} with word:=0} c d n l)):=hf.blk HB66.o (fun e=>e (.inr rfl))
   have HF67:Hid (FN P w w67):=HF66.o.trans (hf.mono (fun q _ e e2=>e (.inl e2)))
   clear h1 hf
   go_wp2_with fail
   first|go_end0|refine bodyPost_ret (results_none rfl _ _ _) rfl ?_
   exact .inr ⟨ts1++([[98,121]]++(ts43++([[116,111]]++(ts65++([]++([[59]])))))),(by show act h=some _;unfold act;rw [HT1.o,(show actOf h.of_=name h.of_ from (if_neg HNA.o).trans (if_neg hc5.out)),HT43.o,(show actWord h=cat ((if h.unit= [] then ok [] else cat (ok [[109,111,118,101,115]]) (amount h.num h.unit))) ((if h.to_= [] then ok [] else cat (ok [[116,111]]) (name h.to_))) from (if_neg (fun e=>e.elim HK2.o HK3.o)).trans (if_pos hc58.out)),if_pos hc59.out,if_neg hc60.out,HT65.o]<;>(first|rfl|simp [cat,ok,natureT,semi])),rfl,⟨(by rw [←St.app_app,HS1.o,←St.app_app,HS2.o,←St.app_app,HS43.o,←St.app_app,HS64.o,←St.app_app,HS65.o,←St.app_app,HS66.o,HS67.o];exact HW67.o),(by unfold actLeft;rw [if_pos HK1.o,if_pos hc59.out];exact HB67.o)⟩,HF67.o⟩
  have hc59:=hdd hq59
  have cb18:w43.cell? ⟨i,18,none⟩=some (.string ⟨h.unit.toArray⟩):=jq0 HB43.o 18
  have qb18:(h.unit== [])=false:=by simpa using hq59
  have qc18:(h.unit != [])=true:=by simpa using hq59
  have HUN:=hdd hq59
  clear hq59
  go_wp2_with fail
  refine (jq3 HW43.o [[109,111,118,101,115]] _ rfl _ _ (by decide) (by show s43.n+2*1≤lim;omega)).mono ?_
  rintro e w68 ⟨rfl,h1,hf⟩
  clear cb5 cb18 qb18 qc18
  have hl68:([[109,111,118,101,115]]:List Rs.Bytes).length≤1:=by decide
  obtain ⟨s68,HS68⟩: ∃z,Hid (s43.app [[109,111,118,101,115]]=z):=⟨_,rfl⟩
  have n68:s68.n≤s43.n+2*1:=by rw [←HS68.o,St.app_n];have:=hl68;omega
  have HW68:Hid (WQ P i G b k s68 w68):=by rw [←HS68.o];exact h1
  have HB68:Hid (w68.heap[i]?=some (OI {{h with name:= []} with of_:= []} c d n l)):=hf.blk HB43.o (fun e=>e (.inr rfl))
  have HF68:Hid (FN P w w68):=HF43.o.trans (hf.mono (fun q _ e e2=>e (.inl e2)))
  clear h1 hf
  go_wp2_with fail
  refine (kq5 HW68.o HI.o HG.o HB68.o (by cases HO.o;constructor<;>first|assumption|(apply jx8;assumption)|exact Nat.zero_le _) (by omega)).mono ?_
  rintro e w69 (⟨ht,rfl,hf⟩|⟨ts69,ht,rfl,⟨h1,hb⟩,hf⟩)
  ·have ht:amount h.num h.unit=none:=(by exact ht)
   exact ⟨rfl,.inl ⟨(by show act h=none;unfold act;rw [HT1.o,(show actOf h.of_=name h.of_ from (if_neg HNA.o).trans (if_neg hc5.out)),HT43.o,(show actWord h=cat ((if h.unit= [] then ok [] else cat (ok [[109,111,118,101,115]]) (amount h.num h.unit))) ((if h.to_= [] then ok [] else cat (ok [[116,111]]) (name h.to_))) from (if_neg (fun e=>e.elim HK2.o HK3.o)).trans (if_pos hc58.out)),if_neg hc59.out,ht]<;>rfl),rfl,HF68.o.trans hf⟩⟩
  have ht:amount h.num h.unit=some ts69:=(by exact ht)
  have hl69:ts69.length≤4:=jj5 _ ht
  have HT69:=hdd ht
  obtain ⟨s69,HS69⟩: ∃z,Hid (s68.app ts69=z):=⟨_,rfl⟩
  have n69:s69.n≤s68.n+2*4:=by rw [←HS69.o,St.app_n];have:=hl69;omega
  have HW69:Hid (WQ P i G b k s69 w69):=by rw [←HS69.o];exact h1
  have HB69:Hid (w69.heap[i]?=some (.cells ((Rs.icells (amountLeft ({{h with name:= []} with of_:= []}):Rs.Item) c d n l).toArray) 49 (0,0))):=hb
  have HF69:Hid (FN P w w69):=HF68.o.trans hf
  clear hb ht
  clear h1 hf
  by_cases hq70:h.to_= []
  ·have hc70:=hdd hq70
   have cb22:w69.cell? ⟨i,22,none⟩=some (.string ⟨#[]⟩):=(jq0 HB69.o 22).trans (by show some (sv h.to_)=_;rw [hq70])
   have HTO:=hdd hq70
   clear hq70
   have HB71:Hid (w69.heap[i]?=some (.cells ((Rs.icells ({amountLeft ({{h with name:= []} with of_:= []}) with to_:= []}:Rs.Item) c d n l).toArray) 49 (0,0))):=by
    have hb:=HB69.o
    rw [HTO.o] at hb
    exact hb
   have HW71:=HW69;have HF71:=HF69
   obtain ⟨s71,HS71⟩: ∃z,Hid (s69.app []=z):=⟨_,rfl⟩
   have n71:s71.n≤s69.n:=by rw [←HS71.o];exact Nat.le_refl _
   have HW71:Hid (WQ P i G b k s71 w69):=by rw [←HS71.o];exact HW71.o
   have c72:w69.cell? ⟨i,5,none⟩=some (.int .i64 h.word):=jq0 HB71.o _
   have f72:w69.frozen? ⟨i,5,none⟩=false:=jq1 HB71.o _
   obtain ⟨w72,hw72⟩: ∃u,w69.setCell ⟨i,5,none⟩ (.int .i64 0)=u:=⟨_,rfl⟩
   have hf:Fr (fun q=>q=i) w69 w72:=by rw [←hw72];exact (Fr.refl (fun q=>q=i) w69).setb 5 _
   have HB72:Hid (w72.heap[i]?=some (.cells ((Rs.icells ({{amountLeft ({{h with name:= []} with of_:= []}) with to_:= []} with word:=0}:Rs.Item) c d n l).toArray) 49 (0,0))):=by rw [←hw72];exact jq9 HB71.o 5 _
   have HW72:Hid (WQ P i G b k s71 w72):=HW71.o.fr hf (fun q e=>⟨.inr e,by have e:q=i:=e;subst e;exact Nat.le_of_not_lt fun h=>HI.o (HG.o _ h)⟩)
   have HF72:Hid (FN P w w72):=HF71.o.trans (hf.mono (fun q _ e e2=>by have e:q=i:=e;subst e;exact HI.o e2))
   clear hf
   have s72_:True:=trivial
   obtain ⟨s72,HS72⟩: ∃z,Hid (s71.app []=z):=⟨_,rfl⟩
   have n72:s72.n≤s71.n:=by rw [←HS72.o];exact Nat.le_refl _
   have HW72:Hid (WQ P i G b k s72 w72):=by rw [←HS72.o];exact HW72.o
   go_wp2_with fail
   refine (jq3 HW72.o [[59]] _ rfl _ _ (by decide) (by show s72.n+2*1≤lim;omega)).mono ?_
   rintro e w73 ⟨rfl,h1,hf⟩
   clear cb22 c72 f72 hw72 s72_
   have hl73:([[59]]:List Rs.Bytes).length≤1:=by decide
   obtain ⟨s73,HS73⟩: ∃z,Hid (s72.app [[59]]=z):=⟨_,rfl⟩
   have n73:s73.n≤s72.n+2*1:=by rw [←HS73.o,St.app_n];have:=hl73;omega
   have HW73:Hid (WQ P i G b k s73 w73):=by rw [←HS73.o];exact h1
   have HB73:Hid (w73.heap[i]?=some (.cells ((Rs.icells ({{amountLeft ({{h with name:= []} with of_:= []}) with to_:= []} with word:=0}:Rs.Item) c d n l).toArray) 49 (0,0))):=hf.blk HB72.o (fun e=>e (.inr rfl))
   have HF73:Hid (FN P w w73):=HF72.o.trans (hf.mono (fun q _ e e2=>e (.inl e2)))
   clear h1 hf
   go_wp2_with fail
   first|go_end0|refine bodyPost_ret (results_none rfl _ _ _) rfl ?_
   exact .inr ⟨ts1++([[98,121]]++(ts43++([[109,111,118,101,115]]++(ts69++([]++([]++([[59]]))))))),(by show act h=some _;unfold act;rw [HT1.o,(show actOf h.of_=name h.of_ from (if_neg HNA.o).trans (if_neg hc5.out)),HT43.o,(show actWord h=cat ((if h.unit= [] then ok [] else cat (ok [[109,111,118,101,115]]) (amount h.num h.unit))) ((if h.to_= [] then ok [] else cat (ok [[116,111]]) (name h.to_))) from (if_neg (fun e=>e.elim HK2.o HK3.o)).trans (if_pos hc58.out)),if_neg hc59.out,HT69.o,if_pos hc70.out]<;>(first|rfl|simp [cat,ok,natureT,semi])),rfl,⟨(by rw [←St.app_app,HS1.o,←St.app_app,HS2.o,←St.app_app,HS43.o,←St.app_app,HS68.o,←St.app_app,HS69.o,←St.app_app,HS71.o,←St.app_app,HS72.o,HS73.o];exact HW73.o),(by unfold actLeft;rw [if_pos HK1.o,if_neg hc59.out];exact HB73.o)⟩,HF73.o⟩
  have hc70:=hdd hq70
  have cb22:w69.cell? ⟨i,22,none⟩=some (.string ⟨h.to_.toArray⟩):=jq0 HB69.o 22
  have qb22:(h.to_== [])=false:=by simpa using hq70
  have qc22:(h.to_ != [])=true:=by simpa using hq70
  have HTO:=hdd hq70
  clear hq70
  go_wp2_with fail
  refine (jq3 HW69.o [[116,111]] _ rfl _ _ (by decide) (by show s69.n+2*1≤lim;omega)).mono ?_
  rintro e w74 ⟨rfl,h1,hf⟩
  clear cb22 qb22 qc22
  have hl74:([[116,111]]:List Rs.Bytes).length≤1:=by decide
  obtain ⟨s74,HS74⟩: ∃z,Hid (s69.app [[116,111]]=z):=⟨_,rfl⟩
  have n74:s74.n≤s69.n+2*1:=by rw [←HS74.o,St.app_n];have:=hl74;omega
  have HW74:Hid (WQ P i G b k s74 w74):=by rw [←HS74.o];exact h1
  have HB74:Hid (w74.heap[i]?=some (.cells ((Rs.icells (amountLeft ({{h with name:= []} with of_:= []}):Rs.Item) c d n l).toArray) 49 (0,0))):=hf.blk HB69.o (fun e=>e (.inr rfl))
  have HF74:Hid (FN P w w74):=HF69.o.trans (hf.mono (fun q _ e e2=>e (.inl e2)))
  clear h1 hf
  go_wp2_with fail
  refine (name_any HW74.o HI.o HG.o (h.to_) HB74.o rfl (by exact HO.o.to_) (by omega)).mono ?_
  rintro e w75 (⟨ht,rfl,hf⟩|⟨ts75,ht,rfl,⟨h1,hb⟩,hf⟩)
  ·have ht:name (h.to_)=none:=(by exact ht)
   exact ⟨rfl,.inl ⟨(by show act h=none;unfold act;rw [HT1.o,(show actOf h.of_=name h.of_ from (if_neg HNA.o).trans (if_neg hc5.out)),HT43.o,(show actWord h=cat ((if h.unit= [] then ok [] else cat (ok [[109,111,118,101,115]]) (amount h.num h.unit))) ((if h.to_= [] then ok [] else cat (ok [[116,111]]) (name h.to_))) from (if_neg (fun e=>e.elim HK2.o HK3.o)).trans (if_pos hc58.out)),if_neg hc59.out,HT69.o,if_neg hc70.out,ht]<;>rfl),rfl,HF74.o.trans hf⟩⟩
  have ht:name (h.to_)=some ts75:=(by exact ht)
  have hl75:ts75.length≤1:=jx7 _ ht
  have HT75:=hdd ht
  obtain ⟨s75,HS75⟩: ∃z,Hid (s74.app ts75=z):=⟨_,rfl⟩
  have n75:s75.n≤s74.n+2*1:=by rw [←HS75.o,St.app_n];have:=hl75;omega
  have HW75:Hid (WQ P i G b k s75 w75):=by rw [←HS75.o];exact h1
  have HB75:Hid (w75.heap[i]?=some (.cells ((Rs.icells ({amountLeft ({{h with name:= []} with of_:= []}) with to_:= []}:Rs.Item) c d n l).toArray) 49 (0,0))):=hb
  have HF75:Hid (FN P w w75):=HF74.o.trans hf
  clear hb ht
  clear h1 hf
  have c76:w75.cell? ⟨i,5,none⟩=some (.int .i64 h.word):=jq0 HB75.o _
  have f76:w75.frozen? ⟨i,5,none⟩=false:=jq1 HB75.o _
  obtain ⟨w76,hw76⟩: ∃u,w75.setCell ⟨i,5,none⟩ (.int .i64 0)=u:=⟨_,rfl⟩
  have hf:Fr (fun q=>q=i) w75 w76:=by rw [←hw76];exact (Fr.refl (fun q=>q=i) w75).setb 5 _
  have HB76:Hid (w76.heap[i]?=some (.cells ((Rs.icells ({{amountLeft ({{h with name:= []} with of_:= []}) with to_:= []} with word:=0}:Rs.Item) c d n l).toArray) 49 (0,0))):=by rw [←hw76];exact jq9 HB75.o 5 _
  have HW76:Hid (WQ P i G b k s75 w76):=HW75.o.fr hf (fun q e=>⟨.inr e,by have e:q=i:=e;subst e;exact Nat.le_of_not_lt fun h=>HI.o (HG.o _ h)⟩)
  have HF76:Hid (FN P w w76):=HF75.o.trans (hf.mono (fun q _ e e2=>by have e:q=i:=e;subst e;exact HI.o e2))
  clear hf
  have s76_:True:=trivial
  obtain ⟨s76,HS76⟩: ∃z,Hid (s75.app []=z):=⟨_,rfl⟩
  have n76:s76.n≤s75.n:=by rw [←HS76.o];exact Nat.le_refl _
  have HW76:Hid (WQ P i G b k s76 w76):=by rw [←HS76.o];exact HW76.o
  go_wp2_with fail
  refine (jq3 HW76.o [[59]] _ rfl _ _ (by decide) (by show s76.n+2*1≤lim;omega)).mono ?_
  rintro e w77 ⟨rfl,h1,hf⟩
  clear c76 f76 hw76 s76_
  have hl77:([[59]]:List Rs.Bytes).length≤1:=by decide
  obtain ⟨s77,HS77⟩: ∃z,Hid (s76.app [[59]]=z):=⟨_,rfl⟩
  have n77:s77.n≤s76.n+2*1:=by rw [←HS77.o,St.app_n];have:=hl77;omega
  have HW77:Hid (WQ P i G b k s77 w77):=by rw [←HS77.o];exact h1
  have HB77:Hid (w77.heap[i]?=some (.cells ((Rs.icells ({{amountLeft ({{h with name:= []} with of_:= []}) with to_:= []} with word:=0}:Rs.Item) c d n l).toArray) 49 (0,0))):=hf.blk HB76.o (fun e=>e (.inr rfl))
  have HF77:Hid (FN P w w77):=HF76.o.trans (hf.mono (fun q _ e e2=>e (.inl e2)))
  clear h1 hf
  go_wp2_with fail
  first|go_end0|refine bodyPost_ret (results_none rfl _ _ _) rfl ?_
  exact .inr ⟨ts1++([[98,121]]++(ts43++([[109,111,118,101,115]]++(ts69++([[116,111]]++(ts75++([]++([[59]])))))))),(by show act h=some _;unfold act;rw [HT1.o,(show actOf h.of_=name h.of_ from (if_neg HNA.o).trans (if_neg hc5.out)),HT43.o,(show actWord h=cat ((if h.unit= [] then ok [] else cat (ok [[109,111,118,101,115]]) (amount h.num h.unit))) ((if h.to_= [] then ok [] else cat (ok [[116,111]]) (name h.to_))) from (if_neg (fun e=>e.elim HK2.o HK3.o)).trans (if_pos hc58.out)),if_neg hc59.out,HT69.o,if_neg hc70.out,HT75.o]<;>(first|rfl|simp [cat,ok,natureT,semi])),rfl,⟨(by rw [←St.app_app,HS1.o,←St.app_app,HS2.o,←St.app_app,HS43.o,←St.app_app,HS68.o,←St.app_app,HS69.o,←St.app_app,HS74.o,←St.app_app,HS75.o,←St.app_app,HS76.o,HS77.o];exact HW77.o),(by unfold actLeft;rw [if_pos HK1.o,if_neg hc59.out];exact HB77.o)⟩,HF77.o⟩
 have hc58:=hdd hq58
 have cb5:w43.cell? ⟨i,5,none⟩=some (.int .i64 h.word):=jq0 HB43.o 5
 have qa1:(h.word==1)=false:=beq_eq_false_iff_ne.2 hq58
 have qa2:(h.word==2)=false:=beq_eq_false_iff_ne.2 HK2.o
 have qa3:(h.word==3)=false:=beq_eq_false_iff_ne.2 HK3.o
 clear hq58
 go_wp2_with fail
 exact ⟨rfl,.inl ⟨(by show act h=none;unfold act;rw [HT1.o,(show actOf h.of_=name h.of_ from (if_neg HNA.o).trans (if_neg hc5.out)),HT43.o,(show actWord h=none from (if_neg (fun e=>e.elim HK2.o HK3.o)).trans (if_neg hc58.out))]<;>rfl),rfl,HF43.o⟩⟩
theorem ban_any {G:Nat} {P:Nat→Prop} {b:Nat} {k:Value} {s:St} {w:World} {i:Nat} {h:Rs.Item} {c d n l:Value} (hw:WQ P i G b k s w) (hi: ¬P i) (hG: ∀q,q<G→P q) (hb:w.heap[i]?=some (.cells (Rs.icells h c d n l).toArray 49 (0,0))) (ho:Ok h) (hn:s.n+(6*h.conds.length+200)≤lim) (hr:RowB P w c 2 (h.conds.map Rs.namedc)):
  Calls Tryz.prog 34 #[.pointer (some ⟨b,0,none⟩),.pointer (some ⟨i,0,none⟩)] w (Out P (ban h) (fun ts w'=>WQ P i G b k (s.app ts) w'∧w'.heap[i]?=some (.cells ((Rs.icells (consLeft (circLeft {h with name:= [],of_:= [],act:= [],within:=spanLeft h.within}):Rs.Item) (.slice none 0 0) d n l).toArray) 49 (0,0))) w):=by
 have HW0:=hdd hw;have HI:=hdd hi;have HG:=hdd hG;have HB0:=hdd hb;have HO:=hdd ho
 have HF0:Hid (FN P w w):=Fr.refl _ _
 clear hw hi hG hb ho
 have HR:=hdd hr
 clear hr
 go_enter Tryz.func34,Tryz.ntmps34
 go_wp2_with fail
 refine (jj1 HW0.o HI.o HG.o HB0.o (by cases HO.o;constructor<;>first|assumption|(apply jx8;assumption)|exact Nat.zero_le _) (by omega) [98,97,110] (by decide)).mono ?_
 rintro e w1 (⟨ht,rfl,hf⟩|⟨ts1,ht,rfl,⟨h1,hb⟩,hf⟩)
 ·have ht:begin_ [98,97,110] h=none:=(by exact ht)
  exact ⟨rfl,.inl ⟨(by show ban h=none;unfold ban;rw [ht]<;>rfl),rfl,HF0.o.trans hf⟩⟩
 have ht:begin_ [98,97,110] h=some ts1:=(by exact ht)
 have hl1:ts1.length≤2:=jz8 _ ht
 have HT1:=hdd ht
 obtain ⟨s1,HS1⟩: ∃z,Hid (s.app ts1=z):=⟨_,rfl⟩
 have n1:s1.n≤s.n+2*2:=by rw [←HS1.o,St.app_n];have:=hl1;omega
 have HW1:Hid (WQ P i G b k s1 w1):=by rw [←HS1.o];exact h1
 have HB1:Hid (w1.heap[i]?=some (OI {h with name:= []} c d n l)):=hb
 have HF1:Hid (FN P w w1):=HF0.o.trans hf
 clear hb ht
 clear h1 hf
 go_wp2_with fail
 refine (bearer_any HW1.o HI.o HG.o HB1.o (by cases HO.o;constructor<;>first|assumption|(apply jx8;assumption)|exact Nat.zero_le _) (by omega)).mono ?_
 rintro e w2 (⟨ht,rfl,hf⟩|⟨ts2,ht,rfl,⟨h1,hb⟩,hf⟩)
 ·have ht:bearer h=none:=(by exact ht)
  exact ⟨rfl,.inl ⟨(by show ban h=none;unfold ban;rw [HT1.o,ht]<;>rfl),rfl,HF1.o.trans hf⟩⟩
 have ht:bearer h=some ts2:=(by exact ht)
 have hl2:ts2.length≤4:=kz4 _ ht
 have HT2:=hdd ht
 obtain ⟨s2,HS2⟩: ∃z,Hid (s1.app ts2=z):=⟨_,rfl⟩
 have n2:s2.n≤s1.n+2*4:=by rw [←HS2.o,St.app_n];have:=hl2;omega
 have HW2:Hid (WQ P i G b k s2 w2):=by rw [←HS2.o];exact h1
 have HB2:Hid (w2.heap[i]?=some (OI {{h with name:= []} with of_:= [],act:= []} c d n l)):=hb
 have HF2:Hid (FN P w w2):=HF1.o.trans hf
 clear hb ht
 clear h1 hf
 go_wp2_with fail
 refine (jq3 HW2.o [[102,111,114]] _ rfl _ _ (by decide) (by show s2.n+2*1≤lim;omega)).mono ?_
 rintro e w3 ⟨rfl,h1,hf⟩
 have hl3:([[102,111,114]]:List Rs.Bytes).length≤1:=by decide
 obtain ⟨s3,HS3⟩: ∃z,Hid (s2.app [[102,111,114]]=z):=⟨_,rfl⟩
 have n3:s3.n≤s2.n+2*1:=by rw [←HS3.o,St.app_n];have:=hl3;omega
 have HW3:Hid (WQ P i G b k s3 w3):=by rw [←HS3.o];exact h1
 have HB3:Hid (w3.heap[i]?=some (OI {{h with name:= []} with of_:= [],act:= []} c d n l)):=hf.blk HB2.o (fun e=>e (.inr rfl))
 have HF3:Hid (FN P w w3):=HF2.o.trans (hf.mono (fun q _ e e2=>e (.inl e2)))
 clear h1 hf
 go_wp2_with fail
 refine (spanW_any HW3.o HI.o HG.o HB3.o (by cases HO.o;constructor<;>first|assumption|(apply jx8;assumption)|exact Nat.zero_le _) (by omega)).mono ?_
 rintro e w4 (⟨ht,rfl,hf⟩|⟨ts4,ht,rfl,⟨h1,hb⟩,hf⟩)
 ·have ht:span h.within=none:=(by exact ht)
  exact ⟨rfl,.inl ⟨(by show ban h=none;unfold ban;rw [HT1.o,HT2.o,ht]<;>rfl),rfl,HF3.o.trans hf⟩⟩
 have ht:span h.within=some ts4:=(by exact ht)
 have hl4:ts4.length≤4:=jk8 _ ht
 have HT4:=hdd ht
 obtain ⟨s4,HS4⟩: ∃z,Hid (s3.app ts4=z):=⟨_,rfl⟩
 have n4:s4.n≤s3.n+2*4:=by rw [←HS4.o,St.app_n];have:=hl4;omega
 have HW4:Hid (WQ P i G b k s4 w4):=by rw [←HS4.o];exact h1
 have HB4:Hid (w4.heap[i]?=some (OI {{{h with name:= []} with of_:= [],act:= []} with within:=spanLeft h.within} c d n l)):=hb
 have HF4:Hid (FN P w w4):=HF3.o.trans hf
 clear hb ht
 clear h1 hf
 go_wp2_with fail
 refine (circ_any HW4.o HI.o HG.o HB4.o (by cases HO.o;constructor<;>first|assumption|(apply jx8;assumption)|exact Nat.zero_le _) (HR.o.fr HF4.o (fun q hq e=>e hq)) (by show _+6*h.conds.length+40≤lim;omega)).mono ?_
 rintro e w5 (⟨ht,rfl,hf⟩|⟨ts5,ht,rfl,⟨h1,hb⟩,hf⟩)
 ·have ht:circ h=none:=(by exact ht)
  exact ⟨rfl,.inl ⟨(by show ban h=none;unfold ban;rw [HT1.o,HT2.o,HT4.o,ht]<;>rfl),rfl,HF4.o.trans hf⟩⟩
 have ht:circ h=some ts5:=(by exact ht)
 have hl5:ts5.length≤(3*h.conds.length+5):=kq9 _ ht
 have HT5:=hdd ht
 obtain ⟨s5,HS5⟩: ∃z,Hid (s4.app ts5=z):=⟨_,rfl⟩
 have n5:s5.n≤s4.n+2*(3*h.conds.length+5):=by rw [←HS5.o,St.app_n];have:=hl5;omega
 have HW5:Hid (WQ P i G b k s5 w5):=by rw [←HS5.o];exact h1
 have HB5:Hid (w5.heap[i]?=some (.cells ((Rs.icells (circLeft ({{{h with name:= []} with of_:= [],act:= []} with within:=spanLeft h.within}):Rs.Item) (.slice none 0 0) d n l).toArray) 49 (0,0))):=hb
 have HF5:Hid (FN P w w5):=HF4.o.trans hf
 clear hb ht
 clear h1 hf
 go_wp2_with fail
 refine (cons_any HW5.o HI.o HG.o HB5.o (Ok.circ (by cases HO.o;constructor<;>first|assumption|(apply jx8;assumption)|exact Nat.zero_le _)) (by omega)).mono ?_
 rintro e w6 (⟨ht,rfl,hf⟩|⟨ts6,ht,rfl,⟨h1,hb⟩,hf⟩)
 ·have ht:cons h=none:=(by rw [jj6] at ht;exact ht)
  exact ⟨rfl,.inl ⟨(by show ban h=none;unfold ban;rw [HT1.o,HT2.o,HT4.o,HT5.o,ht]<;>rfl),rfl,HF5.o.trans hf⟩⟩
 have ht:cons h=some ts6:=(by rw [jj6] at ht;exact ht)
 have hl6:ts6.length≤8:=cons_le _ ht
 have HT6:=hdd ht
 obtain ⟨s6,HS6⟩: ∃z,Hid (s5.app ts6=z):=⟨_,rfl⟩
 have n6:s6.n≤s5.n+2*8:=by rw [←HS6.o,St.app_n];have:=hl6;omega
 have HW6:Hid (WQ P i G b k s6 w6):=by rw [←HS6.o];exact h1
 have HB6:Hid (w6.heap[i]?=some (.cells ((Rs.icells (consLeft (circLeft ({{{h with name:= []} with of_:= [],act:= []} with within:=spanLeft h.within})):Rs.Item) (.slice none 0 0) d n l).toArray) 49 (0,0))):=hb
 have HF6:Hid (FN P w w6):=HF5.o.trans hf
 clear hb ht
 clear h1 hf
 go_wp2_with fail
 refine (jq3 HW6.o [[59]] _ rfl _ _ (by decide) (by show s6.n+2*1≤lim;omega)).mono ?_
 rintro e w7 ⟨rfl,h1,hf⟩
 have hl7:([[59]]:List Rs.Bytes).length≤1:=by decide
 obtain ⟨s7,HS7⟩: ∃z,Hid (s6.app [[59]]=z):=⟨_,rfl⟩
 have n7:s7.n≤s6.n+2*1:=by rw [←HS7.o,St.app_n];have:=hl7;omega
 have HW7:Hid (WQ P i G b k s7 w7):=by rw [←HS7.o];exact h1
 have HB7:Hid (w7.heap[i]?=some (.cells ((Rs.icells (consLeft (circLeft ({{{h with name:= []} with of_:= [],act:= []} with within:=spanLeft h.within})):Rs.Item) (.slice none 0 0) d n l).toArray) 49 (0,0))):=hf.blk HB6.o (fun e=>e (.inr rfl))
 have HF7:Hid (FN P w w7):=HF6.o.trans (hf.mono (fun q _ e e2=>e (.inl e2)))
 clear h1 hf
 go_wp2_with fail
 first|go_end0|refine bodyPost_ret (results_none rfl _ _ _) rfl ?_
 exact .inr ⟨ts1++(ts2++([[102,111,114]]++(ts4++(ts5++(ts6++([[59]])))))),(by show ban h=some _;unfold ban;rw [HT1.o,HT2.o,HT4.o,HT5.o,HT6.o]<;>(first|rfl|simp [cat,ok,natureT,semi])),rfl,⟨(by rw [←St.app_app,HS1.o,←St.app_app,HS2.o,←St.app_app,HS3.o,←St.app_app,HS4.o,←St.app_app,HS5.o,←St.app_app,HS6.o,HS7.o];exact HW7.o),HB7.o⟩,HF7.o⟩
theorem option_any {G:Nat} {P:Nat→Prop} {b:Nat} {k:Value} {s:St} {w:World} {i:Nat} {h:Rs.Item} {c d n l:Value} (hw:WQ P i G b k s w) (hi: ¬P i) (hG: ∀q,q<G→P q) (hb:w.heap[i]?=some (.cells (Rs.icells h c d n l).toArray 49 (0,0))) (ho:Ok h) (hn:s.n+(6*h.conds.length+200)≤lim) (hr:RowB P w c 2 (h.conds.map Rs.namedc)):
  Calls Tryz.prog 35 #[.pointer (some ⟨b,0,none⟩),.pointer (some ⟨i,0,none⟩)] w (Out P (option h) (fun ts w'=>WQ P i G b k (s.app ts) w'∧w'.heap[i]?=some (.cells ((Rs.icells (circLeft {h with name:= [],of_:= [],act:= [],within:=spanLeft h.within}:Rs.Item) (.slice none 0 0) d n l).toArray) 49 (0,0))) w):=by
 have HW0:=hdd hw;have HI:=hdd hi;have HG:=hdd hG;have HB0:=hdd hb;have HO:=hdd ho
 have HF0:Hid (FN P w w):=Fr.refl _ _
 clear hw hi hG hb ho
 have HR:=hdd hr
 clear hr
 go_enter Tryz.func35,Tryz.ntmps35
 go_wp2_with fail
 refine (jj1 HW0.o HI.o HG.o HB0.o (by cases HO.o;constructor<;>first|assumption|(apply jx8;assumption)|exact Nat.zero_le _) (by omega) [111,112,116,105,111,110] (by decide)).mono ?_
 rintro e w1 (⟨ht,rfl,hf⟩|⟨ts1,ht,rfl,⟨h1,hb⟩,hf⟩)
 ·have ht:begin_ [111,112,116,105,111,110] h=none:=(by exact ht)
  exact ⟨rfl,.inl ⟨(by show option h=none;unfold option;rw [ht]<;>rfl),rfl,HF0.o.trans hf⟩⟩
 have ht:begin_ [111,112,116,105,111,110] h=some ts1:=(by exact ht)
 have hl1:ts1.length≤2:=jz8 _ ht
 have HT1:=hdd ht
 obtain ⟨s1,HS1⟩: ∃z,Hid (s.app ts1=z):=⟨_,rfl⟩
 have n1:s1.n≤s.n+2*2:=by rw [←HS1.o,St.app_n];have:=hl1;omega
 have HW1:Hid (WQ P i G b k s1 w1):=by rw [←HS1.o];exact h1
 have HB1:Hid (w1.heap[i]?=some (OI {h with name:= []} c d n l)):=hb
 have HF1:Hid (FN P w w1):=HF0.o.trans hf
 clear hb ht
 clear h1 hf
 go_wp2_with fail
 refine (bearer_any HW1.o HI.o HG.o HB1.o (by cases HO.o;constructor<;>first|assumption|(apply jx8;assumption)|exact Nat.zero_le _) (by omega)).mono ?_
 rintro e w2 (⟨ht,rfl,hf⟩|⟨ts2,ht,rfl,⟨h1,hb⟩,hf⟩)
 ·have ht:bearer h=none:=(by exact ht)
  exact ⟨rfl,.inl ⟨(by show option h=none;unfold option;rw [HT1.o,ht]<;>rfl),rfl,HF1.o.trans hf⟩⟩
 have ht:bearer h=some ts2:=(by exact ht)
 have hl2:ts2.length≤4:=kz4 _ ht
 have HT2:=hdd ht
 obtain ⟨s2,HS2⟩: ∃z,Hid (s1.app ts2=z):=⟨_,rfl⟩
 have n2:s2.n≤s1.n+2*4:=by rw [←HS2.o,St.app_n];have:=hl2;omega
 have HW2:Hid (WQ P i G b k s2 w2):=by rw [←HS2.o];exact h1
 have HB2:Hid (w2.heap[i]?=some (OI {{h with name:= []} with of_:= [],act:= []} c d n l)):=hb
 have HF2:Hid (FN P w w2):=HF1.o.trans hf
 clear hb ht
 clear h1 hf
 go_wp2_with fail
 refine (jq3 HW2.o [[119,105,116,104,105,110]] _ rfl _ _ (by decide) (by show s2.n+2*1≤lim;omega)).mono ?_
 rintro e w3 ⟨rfl,h1,hf⟩
 have hl3:([[119,105,116,104,105,110]]:List Rs.Bytes).length≤1:=by decide
 obtain ⟨s3,HS3⟩: ∃z,Hid (s2.app [[119,105,116,104,105,110]]=z):=⟨_,rfl⟩
 have n3:s3.n≤s2.n+2*1:=by rw [←HS3.o,St.app_n];have:=hl3;omega
 have HW3:Hid (WQ P i G b k s3 w3):=by rw [←HS3.o];exact h1
 have HB3:Hid (w3.heap[i]?=some (OI {{h with name:= []} with of_:= [],act:= []} c d n l)):=hf.blk HB2.o (fun e=>e (.inr rfl))
 have HF3:Hid (FN P w w3):=HF2.o.trans (hf.mono (fun q _ e e2=>e (.inl e2)))
 clear h1 hf
 go_wp2_with fail
 refine (spanW_any HW3.o HI.o HG.o HB3.o (by cases HO.o;constructor<;>first|assumption|(apply jx8;assumption)|exact Nat.zero_le _) (by omega)).mono ?_
 rintro e w4 (⟨ht,rfl,hf⟩|⟨ts4,ht,rfl,⟨h1,hb⟩,hf⟩)
 ·have ht:span h.within=none:=(by exact ht)
  exact ⟨rfl,.inl ⟨(by show option h=none;unfold option;rw [HT1.o,HT2.o,ht]<;>rfl),rfl,HF3.o.trans hf⟩⟩
 have ht:span h.within=some ts4:=(by exact ht)
 have hl4:ts4.length≤4:=jk8 _ ht
 have HT4:=hdd ht
 obtain ⟨s4,HS4⟩: ∃z,Hid (s3.app ts4=z):=⟨_,rfl⟩
 have n4:s4.n≤s3.n+2*4:=by rw [←HS4.o,St.app_n];have:=hl4;omega
 have HW4:Hid (WQ P i G b k s4 w4):=by rw [←HS4.o];exact h1
 have HB4:Hid (w4.heap[i]?=some (OI {{{h with name:= []} with of_:= [],act:= []} with within:=spanLeft h.within} c d n l)):=hb
 have HF4:Hid (FN P w w4):=HF3.o.trans hf
 clear hb ht
 clear h1 hf
 go_wp2_with fail
 refine (circ_any HW4.o HI.o HG.o HB4.o (by cases HO.o;constructor<;>first|assumption|(apply jx8;assumption)|exact Nat.zero_le _) (HR.o.fr HF4.o (fun q hq e=>e hq)) (by show _+6*h.conds.length+40≤lim;omega)).mono ?_
 rintro e w5 (⟨ht,rfl,hf⟩|⟨ts5,ht,rfl,⟨h1,hb⟩,hf⟩)
 ·have ht:circ h=none:=(by exact ht)
  exact ⟨rfl,.inl ⟨(by show option h=none;unfold option;rw [HT1.o,HT2.o,HT4.o,ht]<;>rfl),rfl,HF4.o.trans hf⟩⟩
 have ht:circ h=some ts5:=(by exact ht)
 have hl5:ts5.length≤(3*h.conds.length+5):=kq9 _ ht
 have HT5:=hdd ht
 obtain ⟨s5,HS5⟩: ∃z,Hid (s4.app ts5=z):=⟨_,rfl⟩
 have n5:s5.n≤s4.n+2*(3*h.conds.length+5):=by rw [←HS5.o,St.app_n];have:=hl5;omega
 have HW5:Hid (WQ P i G b k s5 w5):=by rw [←HS5.o];exact h1
 have HB5:Hid (w5.heap[i]?=some (.cells ((Rs.icells (circLeft ({{{h with name:= []} with of_:= [],act:= []} with within:=spanLeft h.within}):Rs.Item) (.slice none 0 0) d n l).toArray) 49 (0,0))):=hb
 have HF5:Hid (FN P w w5):=HF4.o.trans hf
 clear hb ht
 clear h1 hf
 go_wp2_with fail
 refine (jq3 HW5.o [[59]] _ rfl _ _ (by decide) (by show s5.n+2*1≤lim;omega)).mono ?_
 rintro e w6 ⟨rfl,h1,hf⟩
 have hl6:([[59]]:List Rs.Bytes).length≤1:=by decide
 obtain ⟨s6,HS6⟩: ∃z,Hid (s5.app [[59]]=z):=⟨_,rfl⟩
 have n6:s6.n≤s5.n+2*1:=by rw [←HS6.o,St.app_n];have:=hl6;omega
 have HW6:Hid (WQ P i G b k s6 w6):=by rw [←HS6.o];exact h1
 have HB6:Hid (w6.heap[i]?=some (.cells ((Rs.icells (circLeft ({{{h with name:= []} with of_:= [],act:= []} with within:=spanLeft h.within}):Rs.Item) (.slice none 0 0) d n l).toArray) 49 (0,0))):=hf.blk HB5.o (fun e=>e (.inr rfl))
 have HF6:Hid (FN P w w6):=HF5.o.trans (hf.mono (fun q _ e e2=>e (.inl e2)))
 clear h1 hf
 go_wp2_with fail
 first|go_end0|refine bodyPost_ret (results_none rfl _ _ _) rfl ?_
 exact .inr ⟨ts1++(ts2++([[119,105,116,104,105,110]]++(ts4++(ts5++([[59]]))))),(by show option h=some _;unfold option;rw [HT1.o,HT2.o,HT4.o,HT5.o]<;>(first|rfl|simp [cat,ok,natureT,semi])),rfl,⟨(by rw [←St.app_app,HS1.o,←St.app_app,HS2.o,←St.app_app,HS3.o,←St.app_app,HS4.o,←St.app_app,HS5.o,HS6.o];exact HW6.o),HB6.o⟩,HF6.o⟩
theorem watch_any {G:Nat} {P:Nat→Prop} {b:Nat} {k:Value} {s:St} {w:World} {i:Nat} {h:Rs.Item} {c d n l:Value} (hw:WQ P i G b k s w) (hi: ¬P i) (hG: ∀q,q<G→P q) (hb:w.heap[i]?=some (.cells (Rs.icells h c d n l).toArray 49 (0,0))) (ho:Ok h) (hn:s.n+(6*h.conds.length+200)≤lim) (hr:RowB P w c 2 (h.conds.map Rs.namedc)):
  Calls Tryz.prog 36 #[.pointer (some ⟨b,0,none⟩),.pointer (some ⟨i,0,none⟩)] w (Out P (watch h) (fun ts w'=>WQ P i G b k (s.app ts) w'∧w'.heap[i]?=some (.cells ((Rs.icells (circLeft {h with name:= [],act:= [],within:=spanLeft h.within}:Rs.Item) (.slice none 0 0) d n l).toArray) 49 (0,0))) w):=by
 have HW0:=hdd hw;have HI:=hdd hi;have HG:=hdd hG;have HB0:=hdd hb;have HO:=hdd ho
 have HF0:Hid (FN P w w):=Fr.refl _ _
 clear hw hi hG hb ho
 have HR:=hdd hr
 clear hr
 go_enter Tryz.func36,Tryz.ntmps36
 go_wp2_with fail
 refine (jj1 HW0.o HI.o HG.o HB0.o (by cases HO.o;constructor<;>first|assumption|(apply jx8;assumption)|exact Nat.zero_le _) (by omega) [119,97,116,99,104] (by decide)).mono ?_
 rintro e w1 (⟨ht,rfl,hf⟩|⟨ts1,ht,rfl,⟨h1,hb⟩,hf⟩)
 ·have ht:begin_ [119,97,116,99,104] h=none:=(by exact ht)
  exact ⟨rfl,.inl ⟨(by show watch h=none;unfold watch;rw [ht]<;>rfl),rfl,HF0.o.trans hf⟩⟩
 have ht:begin_ [119,97,116,99,104] h=some ts1:=(by exact ht)
 have hl1:ts1.length≤2:=jz8 _ ht
 have HT1:=hdd ht
 obtain ⟨s1,HS1⟩: ∃z,Hid (s.app ts1=z):=⟨_,rfl⟩
 have n1:s1.n≤s.n+2*2:=by rw [←HS1.o,St.app_n];have:=hl1;omega
 have HW1:Hid (WQ P i G b k s1 w1):=by rw [←HS1.o];exact h1
 have HB1:Hid (w1.heap[i]?=some (OI {h with name:= []} c d n l)):=hb
 have HF1:Hid (FN P w w1):=HF0.o.trans hf
 clear hb ht
 clear h1 hf
 go_wp2_with fail
 refine (jq3 HW1.o [[58]] _ rfl _ _ (by decide) (by show s1.n+2*1≤lim;omega)).mono ?_
 rintro e w2 ⟨rfl,h1,hf⟩
 have hl2:([[58]]:List Rs.Bytes).length≤1:=by decide
 obtain ⟨s2,HS2⟩: ∃z,Hid (s1.app [[58]]=z):=⟨_,rfl⟩
 have n2:s2.n≤s1.n+2*1:=by rw [←HS2.o,St.app_n];have:=hl2;omega
 have HW2:Hid (WQ P i G b k s2 w2):=by rw [←HS2.o];exact h1
 have HB2:Hid (w2.heap[i]?=some (OI {h with name:= []} c d n l)):=hf.blk HB1.o (fun e=>e (.inr rfl))
 have HF2:Hid (FN P w w2):=HF1.o.trans (hf.mono (fun q _ e e2=>e (.inl e2)))
 clear h1 hf
 go_wp2_with fail
 refine (name_any HW2.o HI.o HG.o (h.act) HB2.o rfl (by exact HO.o.act) (by omega)).mono ?_
 rintro e w3 (⟨ht,rfl,hf⟩|⟨ts3,ht,rfl,⟨h1,hb⟩,hf⟩)
 ·have ht:name (h.act)=none:=(by exact ht)
  exact ⟨rfl,.inl ⟨(by show watch h=none;unfold watch;rw [HT1.o,ht]<;>rfl),rfl,HF2.o.trans hf⟩⟩
 have ht:name (h.act)=some ts3:=(by exact ht)
 have hl3:ts3.length≤1:=jx7 _ ht
 have HT3:=hdd ht
 obtain ⟨s3,HS3⟩: ∃z,Hid (s2.app ts3=z):=⟨_,rfl⟩
 have n3:s3.n≤s2.n+2*1:=by rw [←HS3.o,St.app_n];have:=hl3;omega
 have HW3:Hid (WQ P i G b k s3 w3):=by rw [←HS3.o];exact h1
 have HB3:Hid (w3.heap[i]?=some (OI {{h with name:= []} with act:= []} c d n l)):=hb
 have HF3:Hid (FN P w w3):=HF2.o.trans hf
 clear hb ht
 clear h1 hf
 go_wp2_with fail
 refine (jq3 HW3.o [[119,105,116,104,105,110]] _ rfl _ _ (by decide) (by show s3.n+2*1≤lim;omega)).mono ?_
 rintro e w4 ⟨rfl,h1,hf⟩
 have hl4:([[119,105,116,104,105,110]]:List Rs.Bytes).length≤1:=by decide
 obtain ⟨s4,HS4⟩: ∃z,Hid (s3.app [[119,105,116,104,105,110]]=z):=⟨_,rfl⟩
 have n4:s4.n≤s3.n+2*1:=by rw [←HS4.o,St.app_n];have:=hl4;omega
 have HW4:Hid (WQ P i G b k s4 w4):=by rw [←HS4.o];exact h1
 have HB4:Hid (w4.heap[i]?=some (OI {{h with name:= []} with act:= []} c d n l)):=hf.blk HB3.o (fun e=>e (.inr rfl))
 have HF4:Hid (FN P w w4):=HF3.o.trans (hf.mono (fun q _ e e2=>e (.inl e2)))
 clear h1 hf
 go_wp2_with fail
 refine (spanW_any HW4.o HI.o HG.o HB4.o (by cases HO.o;constructor<;>first|assumption|(apply jx8;assumption)|exact Nat.zero_le _) (by omega)).mono ?_
 rintro e w5 (⟨ht,rfl,hf⟩|⟨ts5,ht,rfl,⟨h1,hb⟩,hf⟩)
 ·have ht:span h.within=none:=(by exact ht)
  exact ⟨rfl,.inl ⟨(by show watch h=none;unfold watch;rw [HT1.o,HT3.o,ht]<;>rfl),rfl,HF4.o.trans hf⟩⟩
 have ht:span h.within=some ts5:=(by exact ht)
 have hl5:ts5.length≤4:=jk8 _ ht
 have HT5:=hdd ht
 obtain ⟨s5,HS5⟩: ∃z,Hid (s4.app ts5=z):=⟨_,rfl⟩
 have n5:s5.n≤s4.n+2*4:=by rw [←HS5.o,St.app_n];have:=hl5;omega
 have HW5:Hid (WQ P i G b k s5 w5):=by rw [←HS5.o];exact h1
 have HB5:Hid (w5.heap[i]?=some (OI {{{h with name:= []} with act:= []} with within:=spanLeft h.within} c d n l)):=hb
 have HF5:Hid (FN P w w5):=HF4.o.trans hf
 clear hb ht
 clear h1 hf
 go_wp2_with fail
 refine (circ_any HW5.o HI.o HG.o HB5.o (by cases HO.o;constructor<;>first|assumption|(apply jx8;assumption)|exact Nat.zero_le _) (HR.o.fr HF5.o (fun q hq e=>e hq)) (by show _+6*h.conds.length+40≤lim;omega)).mono ?_
 rintro e w6 (⟨ht,rfl,hf⟩|⟨ts6,ht,rfl,⟨h1,hb⟩,hf⟩)
 ·have ht:circ h=none:=(by exact ht)
  exact ⟨rfl,.inl ⟨(by show watch h=none;unfold watch;rw [HT1.o,HT3.o,HT5.o,ht]<;>rfl),rfl,HF5.o.trans hf⟩⟩
 have ht:circ h=some ts6:=(by exact ht)
 have hl6:ts6.length≤(3*h.conds.length+5):=kq9 _ ht
 have HT6:=hdd ht
 obtain ⟨s6,HS6⟩: ∃z,Hid (s5.app ts6=z):=⟨_,rfl⟩
 have n6:s6.n≤s5.n+2*(3*h.conds.length+5):=by rw [←HS6.o,St.app_n];have:=hl6;omega
 have HW6:Hid (WQ P i G b k s6 w6):=by rw [←HS6.o];exact h1
 have HB6:Hid (w6.heap[i]?=some (.cells ((Rs.icells (circLeft ({{{h with name:= []} with act:= []} with within:=spanLeft h.within}):Rs.Item) (.slice none 0 0) d n l).toArray) 49 (0,0))):=hb
 have HF6:Hid (FN P w w6):=HF5.o.trans hf
 clear hb ht
 clear h1 hf
 go_wp2_with fail
 refine (jq3 HW6.o [[59]] _ rfl _ _ (by decide) (by show s6.n+2*1≤lim;omega)).mono ?_
 rintro e w7 ⟨rfl,h1,hf⟩
 have hl7:([[59]]:List Rs.Bytes).length≤1:=by decide
 obtain ⟨s7,HS7⟩: ∃z,Hid (s6.app [[59]]=z):=⟨_,rfl⟩
 have n7:s7.n≤s6.n+2*1:=by rw [←HS7.o,St.app_n];have:=hl7;omega
 have HW7:Hid (WQ P i G b k s7 w7):=by rw [←HS7.o];exact h1
 have HB7:Hid (w7.heap[i]?=some (.cells ((Rs.icells (circLeft ({{{h with name:= []} with act:= []} with within:=spanLeft h.within}):Rs.Item) (.slice none 0 0) d n l).toArray) 49 (0,0))):=hf.blk HB6.o (fun e=>e (.inr rfl))
 have HF7:Hid (FN P w w7):=HF6.o.trans (hf.mono (fun q _ e e2=>e (.inl e2)))
 clear h1 hf
 go_wp2_with fail
 first|go_end0|refine bodyPost_ret (results_none rfl _ _ _) rfl ?_
 exact .inr ⟨ts1++([[58]]++(ts3++([[119,105,116,104,105,110]]++(ts5++(ts6++([[59]])))))),(by show watch h=some _;unfold watch;rw [HT1.o,HT3.o,HT5.o,HT6.o]<;>(first|rfl|simp [cat,ok,natureT,semi])),rfl,⟨(by rw [←St.app_app,HS1.o,←St.app_app,HS2.o,←St.app_app,HS3.o,←St.app_app,HS4.o,←St.app_app,HS5.o,←St.app_app,HS6.o,HS7.o];exact HW7.o),HB7.o⟩,HF7.o⟩
theorem incl_any {G:Nat} {P:Nat→Prop} {b:Nat} {k:Value} {s:St} {w:World} {i:Nat} {h:Rs.Item} {c d n l:Value} (hw:WQ P i G b k s w) (hi: ¬P i) (hG: ∀q,q<G→P q) (hb:w.heap[i]?=some (.cells (Rs.icells h c d n l).toArray 49 (0,0))) (ho:Ok h) (hn:s.n+(4*h.names.length+100)≤lim) (hr:RowB P w n 1 (h.names.map fun x=> [sv x])):
  Calls Tryz.prog 37 #[.pointer (some ⟨b,0,none⟩),.pointer (some ⟨i,0,none⟩)] w (Out P (incl h) (fun ts w'=>WQ P i G b k (s.app ts) w'∧w'.heap[i]?=some (.cells ((Rs.icells ({h with of_:= [],name:= [],names:= []}:Rs.Item) c d (.slice none 0 0) l).toArray) 49 (0,0))) w):=by
 have HW0:=hdd hw;have HI:=hdd hi;have HG:=hdd hG;have HB0:=hdd hb;have HO:=hdd ho
 have HF0:Hid (FN P w w):=Fr.refl _ _
 clear hw hi hG hb ho
 have HR:=hdd hr
 clear hr
 go_enter Tryz.func37,Tryz.ntmps37
 go_wp2_with fail
 refine (jq3 HW0.o [[105,110,99,108,117,100,101]] _ rfl _ _ (by decide) (by show s.n+2*1≤lim;omega)).mono ?_
 rintro e w1 ⟨rfl,h1,hf⟩
 have hl1:([[105,110,99,108,117,100,101]]:List Rs.Bytes).length≤1:=by decide
 obtain ⟨s1,HS1⟩: ∃z,Hid (s.app [[105,110,99,108,117,100,101]]=z):=⟨_,rfl⟩
 have n1:s1.n≤s.n+2*1:=by rw [←HS1.o,St.app_n];have:=hl1;omega
 have HW1:Hid (WQ P i G b k s1 w1):=by rw [←HS1.o];exact h1
 have HB1:Hid (w1.heap[i]?=some (OI h c d n l)):=hf.blk HB0.o (fun e=>e (.inr rfl))
 have HF1:Hid (FN P w w1):=HF0.o.trans (hf.mono (fun q _ e e2=>e (.inl e2)))
 clear h1 hf
 go_wp2_with fail
 refine (name_any HW1.o HI.o HG.o (h.of_) HB1.o rfl (by exact HO.o.of_) (by omega)).mono ?_
 rintro e w2 (⟨ht,rfl,hf⟩|⟨ts2,ht,rfl,⟨h1,hb⟩,hf⟩)
 ·have ht:name (h.of_)=none:=(by exact ht)
  exact ⟨rfl,.inl ⟨(by show incl h=none;unfold incl;rw [ht]<;>rfl),rfl,HF1.o.trans hf⟩⟩
 have ht:name (h.of_)=some ts2:=(by exact ht)
 have hl2:ts2.length≤1:=jx7 _ ht
 have HT2:=hdd ht
 obtain ⟨s2,HS2⟩: ∃z,Hid (s1.app ts2=z):=⟨_,rfl⟩
 have n2:s2.n≤s1.n+2*1:=by rw [←HS2.o,St.app_n];have:=hl2;omega
 have HW2:Hid (WQ P i G b k s2 w2):=by rw [←HS2.o];exact h1
 have HB2:Hid (w2.heap[i]?=some (OI {h with of_:= []} c d n l)):=hb
 have HF2:Hid (FN P w w2):=HF1.o.trans hf
 clear hb ht
 clear h1 hf
 go_wp2_with fail
 refine (jq3 HW2.o [[97,115]] _ rfl _ _ (by decide) (by show s2.n+2*1≤lim;omega)).mono ?_
 rintro e w3 ⟨rfl,h1,hf⟩
 have hl3:([[97,115]]:List Rs.Bytes).length≤1:=by decide
 obtain ⟨s3,HS3⟩: ∃z,Hid (s2.app [[97,115]]=z):=⟨_,rfl⟩
 have n3:s3.n≤s2.n+2*1:=by rw [←HS3.o,St.app_n];have:=hl3;omega
 have HW3:Hid (WQ P i G b k s3 w3):=by rw [←HS3.o];exact h1
 have HB3:Hid (w3.heap[i]?=some (OI {h with of_:= []} c d n l)):=hf.blk HB2.o (fun e=>e (.inr rfl))
 have HF3:Hid (FN P w w3):=HF2.o.trans (hf.mono (fun q _ e e2=>e (.inl e2)))
 clear h1 hf
 go_wp2_with fail
 refine (name_any HW3.o HI.o HG.o (h.name) HB3.o rfl (by exact HO.o.name) (by omega)).mono ?_
 rintro e w4 (⟨ht,rfl,hf⟩|⟨ts4,ht,rfl,⟨h1,hb⟩,hf⟩)
 ·have ht:name (h.name)=none:=(by exact ht)
  exact ⟨rfl,.inl ⟨(by show incl h=none;unfold incl;rw [HT2.o,ht]<;>rfl),rfl,HF3.o.trans hf⟩⟩
 have ht:name (h.name)=some ts4:=(by exact ht)
 have hl4:ts4.length≤1:=jx7 _ ht
 have HT4:=hdd ht
 obtain ⟨s4,HS4⟩: ∃z,Hid (s3.app ts4=z):=⟨_,rfl⟩
 have n4:s4.n≤s3.n+2*1:=by rw [←HS4.o,St.app_n];have:=hl4;omega
 have HW4:Hid (WQ P i G b k s4 w4):=by rw [←HS4.o];exact h1
 have HB4:Hid (w4.heap[i]?=some (OI {{h with of_:= []} with name:= []} c d n l)):=hb
 have HF4:Hid (FN P w w4):=HF3.o.trans hf
 clear hb ht
 clear h1 hf
 go_wp2_with fail
 refine (names_any HW4.o HI.o HG.o HB4.o (by cases HO.o;constructor<;>first|assumption|(apply jx8;assumption)|exact Nat.zero_le _) (HR.o.fr HF4.o (fun q hq e=>e hq)) (by show _+4*h.names.length+20≤lim;omega)).mono ?_
 rintro e w5 (⟨ht,rfl,hf⟩|⟨ts5,ht,rfl,⟨h1,hb⟩,hf⟩)
 ·have ht:namesT h.names=none:=(by exact ht)
  exact ⟨rfl,.inl ⟨(by show incl h=none;unfold incl;rw [HT2.o,HT4.o,ht]<;>rfl),rfl,HF4.o.trans hf⟩⟩
 have ht:namesT h.names=some ts5:=(by exact ht)
 have hl5:ts5.length≤(2*h.names.length+2):=names_le _ ht
 have HT5:=hdd ht
 obtain ⟨s5,HS5⟩: ∃z,Hid (s4.app ts5=z):=⟨_,rfl⟩
 have n5:s5.n≤s4.n+2*(2*h.names.length+2):=by rw [←HS5.o,St.app_n];have:=hl5;omega
 have HW5:Hid (WQ P i G b k s5 w5):=by rw [←HS5.o];exact h1
 have HB5:Hid (w5.heap[i]?=some (.cells ((Rs.icells ({{{h with of_:= []} with name:= []} with names:= []}:Rs.Item) c d (.slice none 0 0) l).toArray) 49 (0,0))):=hb
 have HF5:Hid (FN P w w5):=HF4.o.trans hf
 clear hb ht
 clear h1 hf
 go_wp2_with fail
 refine (jq3 HW5.o [[59]] _ rfl _ _ (by decide) (by show s5.n+2*1≤lim;omega)).mono ?_
 rintro e w6 ⟨rfl,h1,hf⟩
 have hl6:([[59]]:List Rs.Bytes).length≤1:=by decide
 obtain ⟨s6,HS6⟩: ∃z,Hid (s5.app [[59]]=z):=⟨_,rfl⟩
 have n6:s6.n≤s5.n+2*1:=by rw [←HS6.o,St.app_n];have:=hl6;omega
 have HW6:Hid (WQ P i G b k s6 w6):=by rw [←HS6.o];exact h1
 have HB6:Hid (w6.heap[i]?=some (.cells ((Rs.icells ({{{h with of_:= []} with name:= []} with names:= []}:Rs.Item) c d (.slice none 0 0) l).toArray) 49 (0,0))):=hf.blk HB5.o (fun e=>e (.inr rfl))
 have HF6:Hid (FN P w w6):=HF5.o.trans (hf.mono (fun q _ e e2=>e (.inl e2)))
 clear h1 hf
 go_wp2_with fail
 first|go_end0|refine bodyPost_ret (results_none rfl _ _ _) rfl ?_
 exact .inr ⟨[[105,110,99,108,117,100,101]]++(ts2++([[97,115]]++(ts4++(ts5++([[59]]))))),(by show incl h=some _;unfold incl;rw [HT2.o,HT4.o,HT5.o]<;>(first|rfl|simp [cat,ok,natureT,semi])),rfl,⟨(by rw [←St.app_app,HS1.o,←St.app_app,HS2.o,←St.app_app,HS3.o,←St.app_app,HS4.o,←St.app_app,HS5.o,HS6.o];exact HW6.o),HB6.o⟩,HF6.o⟩
end Go.Proofs.YtfficindoecpfaaGreatDoor.Pt
