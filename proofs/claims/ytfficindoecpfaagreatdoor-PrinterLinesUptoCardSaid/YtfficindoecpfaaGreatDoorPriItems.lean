/-
  The printer's writers of items.
-/
import Derived.Test.YtfficindoecpfaaGreatDoorPkPriB
set_option maxHeartbeats 64000000
set_option maxRecDepth 100000
namespace Go.Proofs.YtfficindoecpfaaGreatDoor.Pt
open Go.RowKit Mem Vw
open Ic (RowB)
set_option linter.unusedVariables false
set_option linter.unusedSimpArgs false
theorem left_len {s:Rs.Span} (h:s.name.length≤9223372036854775807):(spanLeft s).name.length≤9223372036854775807:=by
 unfold spanLeft
 split
 ·exact h
 ·exact Nat.zero_le _
theorem Ok.circ {h:Rs.Item} (ho:Ok h):Ok (circLeft h):=by
 unfold circLeft
 split
 ·exact ⟨ho.name,ho.of_,ho.act,ho.by_,ho.til,ho.unit,ho.sum,ho.give,ho.to_,ho.wn,ho.gn,fun _ h=>absurd h List.not_mem_nil,ho.names⟩
 ·exact ⟨ho.name,ho.of_,ho.act,Nat.zero_le _,Nat.zero_le _,ho.unit,ho.sum,ho.give,ho.to_,ho.wn,ho.gn,fun _ h=>absurd h List.not_mem_nil,ho.names⟩
theorem cons_circ (h:Rs.Item):cons (circLeft h)=cons h:=by
 unfold circLeft
 split<;>rfl
def actLeft (h:Rs.Item):Rs.Item:=if h.word=1 then (if h.unit= [] then {h with name:= [],of_:= [],to_:= [],word:=0} else {amountLeft h with name:= [],of_:= [],to_:= [],word:=0}) else {h with name:= [],of_:= [],give:= [],to_:= [],word:=0}
def unitLeft (h:Rs.Item):Rs.Item:=if h.unit= [] then {h with name:= [],word:=0} else {amountLeft h with name:= [],word:=0}
theorem party_any {G:Nat} {P:Nat→Prop} {b:Nat} {k:Value} {s:St} {w:World} {i:Nat} {h:Rs.Item} {c d n l:Value} (hw:WR G (fun q=>P q∨q=i) b k s w) (hi: ¬P i) (hG: ∀q,q<G→P q) (hb:w.heap[i]?=some (.cells (Rs.icells h c d n l).toArray 49 (0,0))) (ho:Ok h) (hn:s.n+40≤lim):
  Calls Tryz.prog 78 #[.pointer (some ⟨b,0,none⟩),.pointer (some ⟨i,0,none⟩)] w (Out P (party h) (fun ts w'=>WR G (fun q=>P q∨q=i) b k (s.app ts) w'∧w'.heap[i]?=some (.cells ((Rs.icells ({h with name:= []}:Rs.Item) c d n l).toArray) 49 (0,0))) w):=by
 have HW0:=hdd hw;have HI:=hdd hi;have HG:=hdd hG;have HB0:=hdd hb;have HO:=hdd ho
 have HF0:Hid (Fr (fun q=> ¬P q) w w):=Fr.refl _ _
 clear hw hi hG hb ho
 go_enter Tryz.func78,Tryz.ntmps78
 go_wp2_with fail
 refine (begin_any HW0.out HI.out HG.out HB0.out (by constructor<;>first|exact HO.out.name|exact HO.out.of_|exact HO.out.act|exact HO.out.by_|exact HO.out.til|exact HO.out.unit|exact HO.out.sum|exact HO.out.give|exact HO.out.to_|exact HO.out.wn|exact HO.out.gn|exact left_len HO.out.wn|exact left_len HO.out.gn|exact HO.out.conds|exact HO.out.names|exact Nat.zero_le _) (by omega) [112,97,114,116,121] (by decide)).mono ?_
 rintro e w1 (⟨ht,rfl,hf⟩|⟨ts1,ht,rfl,⟨h1,hb⟩,hf⟩)
 ·have ht:begin_ [112,97,114,116,121] h=none:=(by exact ht)
  exact ⟨rfl,.inl ⟨(by show party h=none;unfold party;rw [ht]<;>rfl),rfl,HF0.out.trans hf⟩⟩
 have ht:begin_ [112,97,114,116,121] h=some ts1:=(by exact ht)
 have hl1:ts1.length≤2:=begin_le _ ht
 have HT1:=hdd ht
 obtain ⟨s1,HS1⟩: ∃z,Hid (s.app ts1=z):=⟨_,rfl⟩
 have n1:s1.n≤s.n+2*2:=by rw [←HS1.out,St.app_n];have:=hl1;omega
 have HW1:Hid (WR G (fun q=>P q∨q=i) b k s1 w1):=by rw [←HS1.out];exact h1
 have HB1:Hid (w1.heap[i]?=some (.cells ((Rs.icells ({h with name:= []}:Rs.Item) c d n l).toArray) 49 (0,0))):=hb
 have HF1:Hid (Fr (fun q=> ¬P q) w w1):=HF0.out.trans hf
 clear hb ht
 clear h1 hf
 go_wp2_with fail
 refine (words_new HW1.out [[59]] _ rfl _ _ (by decide) (by show s1.n+2*1≤lim;omega)).mono ?_
 rintro e w2 ⟨rfl,h1,hf⟩
 have hl2:([[59]]:List Rs.Bytes).length≤1:=by decide
 obtain ⟨s2,HS2⟩: ∃z,Hid (s1.app [[59]]=z):=⟨_,rfl⟩
 have n2:s2.n≤s1.n+2*1:=by rw [←HS2.out,St.app_n];have:=hl2;omega
 have HW2:Hid (WR G (fun q=>P q∨q=i) b k s2 w2):=by rw [←HS2.out];exact h1
 have HB2:Hid (w2.heap[i]?=some (.cells ((Rs.icells ({h with name:= []}:Rs.Item) c d n l).toArray) 49 (0,0))):=hf.blk HB1.out (fun e=>e (.inr rfl))
 have HF2:Hid (Fr (fun q=> ¬P q) w w2):=HF1.out.trans (hf.mono (fun q _ e e2=>e (.inl e2)))
 clear h1 hf
 go_wp2_with fail
 first|go_end0|refine bodyPost_ret (results_none rfl _ _ _) rfl ?_
 exact .inr ⟨ts1++([[59]]),(by show party h=some _;unfold party;rw [HT1.out]<;>(first|rfl|simp [cat,ok,natureT,semi])),rfl,⟨(by rw [←St.app_app,HS1.out,HS2.out];exact HW2.out),HB2.out⟩,HF2.out⟩
theorem role_any {G:Nat} {P:Nat→Prop} {b:Nat} {k:Value} {s:St} {w:World} {i:Nat} {h:Rs.Item} {c d n l:Value} (hw:WR G (fun q=>P q∨q=i) b k s w) (hi: ¬P i) (hG: ∀q,q<G→P q) (hb:w.heap[i]?=some (.cells (Rs.icells h c d n l).toArray 49 (0,0))) (ho:Ok h) (hn:s.n+40≤lim):
  Calls Tryz.prog 79 #[.pointer (some ⟨b,0,none⟩),.pointer (some ⟨i,0,none⟩)] w (Out P (role h) (fun ts w'=>WR G (fun q=>P q∨q=i) b k (s.app ts) w'∧w'.heap[i]?=some (.cells ((Rs.icells ({h with name:= [],of_:= []}:Rs.Item) c d n l).toArray) 49 (0,0))) w):=by
 have HW0:=hdd hw;have HI:=hdd hi;have HG:=hdd hG;have HB0:=hdd hb;have HO:=hdd ho
 have HF0:Hid (Fr (fun q=> ¬P q) w w):=Fr.refl _ _
 clear hw hi hG hb ho
 go_enter Tryz.func79,Tryz.ntmps79
 go_wp2_with fail
 refine (begin_any HW0.out HI.out HG.out HB0.out (by constructor<;>first|exact HO.out.name|exact HO.out.of_|exact HO.out.act|exact HO.out.by_|exact HO.out.til|exact HO.out.unit|exact HO.out.sum|exact HO.out.give|exact HO.out.to_|exact HO.out.wn|exact HO.out.gn|exact left_len HO.out.wn|exact left_len HO.out.gn|exact HO.out.conds|exact HO.out.names|exact Nat.zero_le _) (by omega) [114,111,108,101] (by decide)).mono ?_
 rintro e w1 (⟨ht,rfl,hf⟩|⟨ts1,ht,rfl,⟨h1,hb⟩,hf⟩)
 ·have ht:begin_ [114,111,108,101] h=none:=(by exact ht)
  exact ⟨rfl,.inl ⟨(by show role h=none;unfold role;rw [ht]<;>rfl),rfl,HF0.out.trans hf⟩⟩
 have ht:begin_ [114,111,108,101] h=some ts1:=(by exact ht)
 have hl1:ts1.length≤2:=begin_le _ ht
 have HT1:=hdd ht
 obtain ⟨s1,HS1⟩: ∃z,Hid (s.app ts1=z):=⟨_,rfl⟩
 have n1:s1.n≤s.n+2*2:=by rw [←HS1.out,St.app_n];have:=hl1;omega
 have HW1:Hid (WR G (fun q=>P q∨q=i) b k s1 w1):=by rw [←HS1.out];exact h1
 have HB1:Hid (w1.heap[i]?=some (.cells ((Rs.icells ({h with name:= []}:Rs.Item) c d n l).toArray) 49 (0,0))):=hb
 have HF1:Hid (Fr (fun q=> ¬P q) w w1):=HF0.out.trans hf
 clear hb ht
 clear h1 hf
 go_wp2_with fail
 refine (words_new HW1.out [[111,102]] _ rfl _ _ (by decide) (by show s1.n+2*1≤lim;omega)).mono ?_
 rintro e w2 ⟨rfl,h1,hf⟩
 have hl2:([[111,102]]:List Rs.Bytes).length≤1:=by decide
 obtain ⟨s2,HS2⟩: ∃z,Hid (s1.app [[111,102]]=z):=⟨_,rfl⟩
 have n2:s2.n≤s1.n+2*1:=by rw [←HS2.out,St.app_n];have:=hl2;omega
 have HW2:Hid (WR G (fun q=>P q∨q=i) b k s2 w2):=by rw [←HS2.out];exact h1
 have HB2:Hid (w2.heap[i]?=some (.cells ((Rs.icells ({h with name:= []}:Rs.Item) c d n l).toArray) 49 (0,0))):=hf.blk HB1.out (fun e=>e (.inr rfl))
 have HF2:Hid (Fr (fun q=> ¬P q) w w2):=HF1.out.trans (hf.mono (fun q _ e e2=>e (.inl e2)))
 clear h1 hf
 go_wp2_with fail
 refine (name_any HW2.out HI.out HG.out (h.of_) HB2.out rfl (by exact HO.out.of_) (by omega)).mono ?_
 rintro e w3 (⟨ht,rfl,hf⟩|⟨ts3,ht,rfl,⟨h1,hb⟩,hf⟩)
 ·have ht:name (h.of_)=none:=(by exact ht)
  exact ⟨rfl,.inl ⟨(by show role h=none;unfold role;rw [HT1.out,ht]<;>rfl),rfl,HF2.out.trans hf⟩⟩
 have ht:name (h.of_)=some ts3:=(by exact ht)
 have hl3:ts3.length≤1:=name_le _ ht
 have HT3:=hdd ht
 obtain ⟨s3,HS3⟩: ∃z,Hid (s2.app ts3=z):=⟨_,rfl⟩
 have n3:s3.n≤s2.n+2*1:=by rw [←HS3.out,St.app_n];have:=hl3;omega
 have HW3:Hid (WR G (fun q=>P q∨q=i) b k s3 w3):=by rw [←HS3.out];exact h1
 have HB3:Hid (w3.heap[i]?=some (.cells ((Rs.icells ({{h with name:= []} with name:= [],of_:= []}:Rs.Item) c d n l).toArray) 49 (0,0))):=hb
 have HF3:Hid (Fr (fun q=> ¬P q) w w3):=HF2.out.trans hf
 clear hb ht
 clear h1 hf
 go_wp2_with fail
 refine (words_new HW3.out [[59]] _ rfl _ _ (by decide) (by show s3.n+2*1≤lim;omega)).mono ?_
 rintro e w4 ⟨rfl,h1,hf⟩
 have hl4:([[59]]:List Rs.Bytes).length≤1:=by decide
 obtain ⟨s4,HS4⟩: ∃z,Hid (s3.app [[59]]=z):=⟨_,rfl⟩
 have n4:s4.n≤s3.n+2*1:=by rw [←HS4.out,St.app_n];have:=hl4;omega
 have HW4:Hid (WR G (fun q=>P q∨q=i) b k s4 w4):=by rw [←HS4.out];exact h1
 have HB4:Hid (w4.heap[i]?=some (.cells ((Rs.icells ({{h with name:= []} with name:= [],of_:= []}:Rs.Item) c d n l).toArray) 49 (0,0))):=hf.blk HB3.out (fun e=>e (.inr rfl))
 have HF4:Hid (Fr (fun q=> ¬P q) w w4):=HF3.out.trans (hf.mono (fun q _ e e2=>e (.inl e2)))
 clear h1 hf
 go_wp2_with fail
 first|go_end0|refine bodyPost_ret (results_none rfl _ _ _) rfl ?_
 exact .inr ⟨ts1++([[111,102]]++(ts3++([[59]]))),(by show role h=some _;unfold role;rw [HT1.out,HT3.out]<;>(first|rfl|simp [cat,ok,natureT,semi])),rfl,⟨(by rw [←St.app_app,HS1.out,←St.app_app,HS2.out,←St.app_app,HS3.out,HS4.out];exact HW4.out),HB4.out⟩,HF4.out⟩
theorem spanDef_any {G:Nat} {P:Nat→Prop} {b:Nat} {k:Value} {s:St} {w:World} {i:Nat} {h:Rs.Item} {c d n l:Value} (hw:WR G (fun q=>P q∨q=i) b k s w) (hi: ¬P i) (hG: ∀q,q<G→P q) (hb:w.heap[i]?=some (.cells (Rs.icells h c d n l).toArray 49 (0,0))) (ho:Ok h) (hn:s.n+60≤lim):
  Calls Tryz.prog 83 #[.pointer (some ⟨b,0,none⟩),.pointer (some ⟨i,0,none⟩)] w (Out P (spanDef h) (fun ts w'=>WR G (fun q=>P q∨q=i) b k (s.app ts) w'∧w'.heap[i]?=some (.cells ((Rs.icells ({h with name:= [],within:=daysLeft h.within}:Rs.Item) c d n l).toArray) 49 (0,0))) w):=by
 have HW0:=hdd hw;have HI:=hdd hi;have HG:=hdd hG;have HB0:=hdd hb;have HO:=hdd ho
 have HF0:Hid (Fr (fun q=> ¬P q) w w):=Fr.refl _ _
 clear hw hi hG hb ho
 go_enter Tryz.func83,Tryz.ntmps83
 go_wp2_with fail
 refine (begin_any HW0.out HI.out HG.out HB0.out (by constructor<;>first|exact HO.out.name|exact HO.out.of_|exact HO.out.act|exact HO.out.by_|exact HO.out.til|exact HO.out.unit|exact HO.out.sum|exact HO.out.give|exact HO.out.to_|exact HO.out.wn|exact HO.out.gn|exact left_len HO.out.wn|exact left_len HO.out.gn|exact HO.out.conds|exact HO.out.names|exact Nat.zero_le _) (by omega) [115,112,97,110] (by decide)).mono ?_
 rintro e w1 (⟨ht,rfl,hf⟩|⟨ts1,ht,rfl,⟨h1,hb⟩,hf⟩)
 ·have ht:begin_ [115,112,97,110] h=none:=(by exact ht)
  exact ⟨rfl,.inl ⟨(by show spanDef h=none;unfold spanDef;rw [ht]<;>rfl),rfl,HF0.out.trans hf⟩⟩
 have ht:begin_ [115,112,97,110] h=some ts1:=(by exact ht)
 have hl1:ts1.length≤2:=begin_le _ ht
 have HT1:=hdd ht
 obtain ⟨s1,HS1⟩: ∃z,Hid (s.app ts1=z):=⟨_,rfl⟩
 have n1:s1.n≤s.n+2*2:=by rw [←HS1.out,St.app_n];have:=hl1;omega
 have HW1:Hid (WR G (fun q=>P q∨q=i) b k s1 w1):=by rw [←HS1.out];exact h1
 have HB1:Hid (w1.heap[i]?=some (.cells ((Rs.icells ({h with name:= []}:Rs.Item) c d n l).toArray) 49 (0,0))):=hb
 have HF1:Hid (Fr (fun q=> ¬P q) w w1):=HF0.out.trans hf
 clear hb ht
 clear h1 hf
 go_wp2_with fail
 refine (words_new HW1.out [[61]] _ rfl _ _ (by decide) (by show s1.n+2*1≤lim;omega)).mono ?_
 rintro e w2 ⟨rfl,h1,hf⟩
 have hl2:([[61]]:List Rs.Bytes).length≤1:=by decide
 obtain ⟨s2,HS2⟩: ∃z,Hid (s1.app [[61]]=z):=⟨_,rfl⟩
 have n2:s2.n≤s1.n+2*1:=by rw [←HS2.out,St.app_n];have:=hl2;omega
 have HW2:Hid (WR G (fun q=>P q∨q=i) b k s2 w2):=by rw [←HS2.out];exact h1
 have HB2:Hid (w2.heap[i]?=some (.cells ((Rs.icells ({h with name:= []}:Rs.Item) c d n l).toArray) 49 (0,0))):=hf.blk HB1.out (fun e=>e (.inr rfl))
 have HF2:Hid (Fr (fun q=> ¬P q) w w2):=HF1.out.trans (hf.mono (fun q _ e e2=>e (.inl e2)))
 clear h1 hf
 go_wp2_with fail
 refine (daysW_any HW2.out HI.out HG.out HB2.out (by constructor<;>first|exact HO.out.name|exact HO.out.of_|exact HO.out.act|exact HO.out.by_|exact HO.out.til|exact HO.out.unit|exact HO.out.sum|exact HO.out.give|exact HO.out.to_|exact HO.out.wn|exact HO.out.gn|exact left_len HO.out.wn|exact left_len HO.out.gn|exact HO.out.conds|exact HO.out.names|exact Nat.zero_le _) (by omega)).mono ?_
 rintro e w3 (⟨ht,rfl,hf⟩|⟨ts3,ht,rfl,⟨h1,hb⟩,hf⟩)
 ·have ht:daysT h.within=none:=(by exact ht)
  exact ⟨rfl,.inl ⟨(by show spanDef h=none;unfold spanDef;rw [HT1.out,ht]<;>rfl),rfl,HF2.out.trans hf⟩⟩
 have ht:daysT h.within=some ts3:=(by exact ht)
 have hl3:ts3.length≤4:=days_le _ ht
 have HT3:=hdd ht
 obtain ⟨s3,HS3⟩: ∃z,Hid (s2.app ts3=z):=⟨_,rfl⟩
 have n3:s3.n≤s2.n+2*4:=by rw [←HS3.out,St.app_n];have:=hl3;omega
 have HW3:Hid (WR G (fun q=>P q∨q=i) b k s3 w3):=by rw [←HS3.out];exact h1
 have HB3:Hid (w3.heap[i]?=some (.cells ((Rs.icells ({{h with name:= []} with within:=daysLeft h.within}:Rs.Item) c d n l).toArray) 49 (0,0))):=hb
 have HF3:Hid (Fr (fun q=> ¬P q) w w3):=HF2.out.trans hf
 clear hb ht
 clear h1 hf
 go_wp2_with fail
 refine (words_new HW3.out [[59]] _ rfl _ _ (by decide) (by show s3.n+2*1≤lim;omega)).mono ?_
 rintro e w4 ⟨rfl,h1,hf⟩
 have hl4:([[59]]:List Rs.Bytes).length≤1:=by decide
 obtain ⟨s4,HS4⟩: ∃z,Hid (s3.app [[59]]=z):=⟨_,rfl⟩
 have n4:s4.n≤s3.n+2*1:=by rw [←HS4.out,St.app_n];have:=hl4;omega
 have HW4:Hid (WR G (fun q=>P q∨q=i) b k s4 w4):=by rw [←HS4.out];exact h1
 have HB4:Hid (w4.heap[i]?=some (.cells ((Rs.icells ({{h with name:= []} with within:=daysLeft h.within}:Rs.Item) c d n l).toArray) 49 (0,0))):=hf.blk HB3.out (fun e=>e (.inr rfl))
 have HF4:Hid (Fr (fun q=> ¬P q) w w4):=HF3.out.trans (hf.mono (fun q _ e e2=>e (.inl e2)))
 clear h1 hf
 go_wp2_with fail
 first|go_end0|refine bodyPost_ret (results_none rfl _ _ _) rfl ?_
 exact .inr ⟨ts1++([[61]]++(ts3++([[59]]))),(by show spanDef h=some _;unfold spanDef;rw [HT1.out,HT3.out]<;>(first|rfl|simp [cat,ok,natureT,semi])),rfl,⟨(by rw [←St.app_app,HS1.out,←St.app_app,HS2.out,←St.app_app,HS3.out,HS4.out];exact HW4.out),HB4.out⟩,HF4.out⟩
theorem sumDef_any {G:Nat} {P:Nat→Prop} {b:Nat} {k:Value} {s:St} {w:World} {i:Nat} {h:Rs.Item} {c d n l:Value} (hw:WR G (fun q=>P q∨q=i) b k s w) (hi: ¬P i) (hG: ∀q,q<G→P q) (hb:w.heap[i]?=some (.cells (Rs.icells h c d n l).toArray 49 (0,0))) (ho:Ok h) (hn:s.n+60≤lim):
  Calls Tryz.prog 84 #[.pointer (some ⟨b,0,none⟩),.pointer (some ⟨i,0,none⟩)] w (Out P (sumDef h) (fun ts w'=>WR G (fun q=>P q∨q=i) b k (s.app ts) w'∧w'.heap[i]?=some (.cells ((Rs.icells ({amountLeft h with name:= []}:Rs.Item) c d n l).toArray) 49 (0,0))) w):=by
 have HW0:=hdd hw;have HI:=hdd hi;have HG:=hdd hG;have HB0:=hdd hb;have HO:=hdd ho
 have HF0:Hid (Fr (fun q=> ¬P q) w w):=Fr.refl _ _
 clear hw hi hG hb ho
 go_enter Tryz.func84,Tryz.ntmps84
 go_wp2_with fail
 refine (begin_any HW0.out HI.out HG.out HB0.out (by constructor<;>first|exact HO.out.name|exact HO.out.of_|exact HO.out.act|exact HO.out.by_|exact HO.out.til|exact HO.out.unit|exact HO.out.sum|exact HO.out.give|exact HO.out.to_|exact HO.out.wn|exact HO.out.gn|exact left_len HO.out.wn|exact left_len HO.out.gn|exact HO.out.conds|exact HO.out.names|exact Nat.zero_le _) (by omega) [115,117,109] (by decide)).mono ?_
 rintro e w1 (⟨ht,rfl,hf⟩|⟨ts1,ht,rfl,⟨h1,hb⟩,hf⟩)
 ·have ht:begin_ [115,117,109] h=none:=(by exact ht)
  exact ⟨rfl,.inl ⟨(by show sumDef h=none;unfold sumDef;rw [ht]<;>rfl),rfl,HF0.out.trans hf⟩⟩
 have ht:begin_ [115,117,109] h=some ts1:=(by exact ht)
 have hl1:ts1.length≤2:=begin_le _ ht
 have HT1:=hdd ht
 obtain ⟨s1,HS1⟩: ∃z,Hid (s.app ts1=z):=⟨_,rfl⟩
 have n1:s1.n≤s.n+2*2:=by rw [←HS1.out,St.app_n];have:=hl1;omega
 have HW1:Hid (WR G (fun q=>P q∨q=i) b k s1 w1):=by rw [←HS1.out];exact h1
 have HB1:Hid (w1.heap[i]?=some (.cells ((Rs.icells ({h with name:= []}:Rs.Item) c d n l).toArray) 49 (0,0))):=hb
 have HF1:Hid (Fr (fun q=> ¬P q) w w1):=HF0.out.trans hf
 clear hb ht
 clear h1 hf
 go_wp2_with fail
 refine (words_new HW1.out [[61]] _ rfl _ _ (by decide) (by show s1.n+2*1≤lim;omega)).mono ?_
 rintro e w2 ⟨rfl,h1,hf⟩
 have hl2:([[61]]:List Rs.Bytes).length≤1:=by decide
 obtain ⟨s2,HS2⟩: ∃z,Hid (s1.app [[61]]=z):=⟨_,rfl⟩
 have n2:s2.n≤s1.n+2*1:=by rw [←HS2.out,St.app_n];have:=hl2;omega
 have HW2:Hid (WR G (fun q=>P q∨q=i) b k s2 w2):=by rw [←HS2.out];exact h1
 have HB2:Hid (w2.heap[i]?=some (.cells ((Rs.icells ({h with name:= []}:Rs.Item) c d n l).toArray) 49 (0,0))):=hf.blk HB1.out (fun e=>e (.inr rfl))
 have HF2:Hid (Fr (fun q=> ¬P q) w w2):=HF1.out.trans (hf.mono (fun q _ e e2=>e (.inl e2)))
 clear h1 hf
 go_wp2_with fail
 refine (amount_any HW2.out HI.out HG.out HB2.out (by constructor<;>first|exact HO.out.name|exact HO.out.of_|exact HO.out.act|exact HO.out.by_|exact HO.out.til|exact HO.out.unit|exact HO.out.sum|exact HO.out.give|exact HO.out.to_|exact HO.out.wn|exact HO.out.gn|exact left_len HO.out.wn|exact left_len HO.out.gn|exact HO.out.conds|exact HO.out.names|exact Nat.zero_le _) (by omega)).mono ?_
 rintro e w3 (⟨ht,rfl,hf⟩|⟨ts3,ht,rfl,⟨h1,hb⟩,hf⟩)
 ·have ht:amount h.num h.unit=none:=(by exact ht)
  exact ⟨rfl,.inl ⟨(by show sumDef h=none;unfold sumDef;rw [HT1.out,ht]<;>rfl),rfl,HF2.out.trans hf⟩⟩
 have ht:amount h.num h.unit=some ts3:=(by exact ht)
 have hl3:ts3.length≤4:=amount_le _ ht
 have HT3:=hdd ht
 obtain ⟨s3,HS3⟩: ∃z,Hid (s2.app ts3=z):=⟨_,rfl⟩
 have n3:s3.n≤s2.n+2*4:=by rw [←HS3.out,St.app_n];have:=hl3;omega
 have HW3:Hid (WR G (fun q=>P q∨q=i) b k s3 w3):=by rw [←HS3.out];exact h1
 have HB3:Hid (w3.heap[i]?=some (.cells ((Rs.icells (amountLeft ({h with name:= []}):Rs.Item) c d n l).toArray) 49 (0,0))):=hb
 have HF3:Hid (Fr (fun q=> ¬P q) w w3):=HF2.out.trans hf
 clear hb ht
 clear h1 hf
 go_wp2_with fail
 refine (words_new HW3.out [[59]] _ rfl _ _ (by decide) (by show s3.n+2*1≤lim;omega)).mono ?_
 rintro e w4 ⟨rfl,h1,hf⟩
 have hl4:([[59]]:List Rs.Bytes).length≤1:=by decide
 obtain ⟨s4,HS4⟩: ∃z,Hid (s3.app [[59]]=z):=⟨_,rfl⟩
 have n4:s4.n≤s3.n+2*1:=by rw [←HS4.out,St.app_n];have:=hl4;omega
 have HW4:Hid (WR G (fun q=>P q∨q=i) b k s4 w4):=by rw [←HS4.out];exact h1
 have HB4:Hid (w4.heap[i]?=some (.cells ((Rs.icells (amountLeft ({h with name:= []}):Rs.Item) c d n l).toArray) 49 (0,0))):=hf.blk HB3.out (fun e=>e (.inr rfl))
 have HF4:Hid (Fr (fun q=> ¬P q) w w4):=HF3.out.trans (hf.mono (fun q _ e e2=>e (.inl e2)))
 clear h1 hf
 go_wp2_with fail
 first|go_end0|refine bodyPost_ret (results_none rfl _ _ _) rfl ?_
 exact .inr ⟨ts1++([[61]]++(ts3++([[59]]))),(by show sumDef h=some _;unfold sumDef;rw [HT1.out,HT3.out]<;>(first|rfl|simp [cat,ok,natureT,semi])),rfl,⟨(by rw [←St.app_app,HS1.out,←St.app_app,HS2.out,←St.app_app,HS3.out,HS4.out];exact HW4.out),HB4.out⟩,HF4.out⟩
theorem unit_any {G:Nat} {P:Nat→Prop} {b:Nat} {k:Value} {s:St} {w:World} {i:Nat} {h:Rs.Item} {c d n l:Value} (hw:WR G (fun q=>P q∨q=i) b k s w) (hi: ¬P i) (hG: ∀q,q<G→P q) (hb:w.heap[i]?=some (.cells (Rs.icells h c d n l).toArray 49 (0,0))) (ho:Ok h) (hn:s.n+80≤lim):
  Calls Tryz.prog 80 #[.pointer (some ⟨b,0,none⟩),.pointer (some ⟨i,0,none⟩)] w (Out P (unit h) (fun ts w'=>WR G (fun q=>P q∨q=i) b k (s.app ts) w'∧w'.heap[i]?=some (.cells ((Rs.icells (unitLeft h:Rs.Item) c d n l).toArray) 49 (0,0))) w):=by
 have HW0:=hdd hw;have HI:=hdd hi;have HG:=hdd hG;have HB0:=hdd hb;have HO:=hdd ho
 have HF0:Hid (Fr (fun q=> ¬P q) w w):=Fr.refl _ _
 clear hw hi hG hb ho
 go_enter Tryz.func80,Tryz.ntmps80
 go_wp2_with fail
 refine (begin_any HW0.out HI.out HG.out HB0.out (by constructor<;>first|exact HO.out.name|exact HO.out.of_|exact HO.out.act|exact HO.out.by_|exact HO.out.til|exact HO.out.unit|exact HO.out.sum|exact HO.out.give|exact HO.out.to_|exact HO.out.wn|exact HO.out.gn|exact left_len HO.out.wn|exact left_len HO.out.gn|exact HO.out.conds|exact HO.out.names|exact Nat.zero_le _) (by omega) [117,110,105,116] (by decide)).mono ?_
 rintro e w1 (⟨ht,rfl,hf⟩|⟨ts1,ht,rfl,⟨h1,hb⟩,hf⟩)
 ·have ht:begin_ [117,110,105,116] h=none:=(by exact ht)
  exact ⟨rfl,.inl ⟨(by show unit h=none;unfold unit;rw [ht]<;>rfl),rfl,HF0.out.trans hf⟩⟩
 have ht:begin_ [117,110,105,116] h=some ts1:=(by exact ht)
 have hl1:ts1.length≤2:=begin_le _ ht
 have HT1:=hdd ht
 obtain ⟨s1,HS1⟩: ∃z,Hid (s.app ts1=z):=⟨_,rfl⟩
 have n1:s1.n≤s.n+2*2:=by rw [←HS1.out,St.app_n];have:=hl1;omega
 have HW1:Hid (WR G (fun q=>P q∨q=i) b k s1 w1):=by rw [←HS1.out];exact h1
 have HB1:Hid (w1.heap[i]?=some (.cells ((Rs.icells ({h with name:= []}:Rs.Item) c d n l).toArray) 49 (0,0))):=hb
 have HF1:Hid (Fr (fun q=> ¬P q) w w1):=HF0.out.trans hf
 clear hb ht
 clear h1 hf
 by_cases hq2:h.word=1
 ·have hc2:=hdd hq2
  have cb5:w1.cell? ⟨i,5,none⟩=some (.int .i64 1):=(cell_of_blk HB1.out 5).trans (by show some (Value.int .i64 h.word)=_;rw [hq2])
  have HK1:=hdd hq2
  clear hq2
  go_wp2_with fail
  refine (words_new HW1.out [[103,111,111,100,115]] _ rfl _ _ (by decide) (by show s1.n+2*1≤lim;omega)).mono ?_
  rintro e w3 ⟨rfl,h1,hf⟩
  clear cb5
  have hl3:([[103,111,111,100,115]]:List Rs.Bytes).length≤1:=by decide
  obtain ⟨s3,HS3⟩: ∃z,Hid (s1.app [[103,111,111,100,115]]=z):=⟨_,rfl⟩
  have n3:s3.n≤s1.n+2*1:=by rw [←HS3.out,St.app_n];have:=hl3;omega
  have HW3:Hid (WR G (fun q=>P q∨q=i) b k s3 w3):=by rw [←HS3.out];exact h1
  have HB3:Hid (w3.heap[i]?=some (.cells ((Rs.icells ({h with name:= []}:Rs.Item) c d n l).toArray) 49 (0,0))):=hf.blk HB1.out (fun e=>e (.inr rfl))
  have HF3:Hid (Fr (fun q=> ¬P q) w w3):=HF1.out.trans (hf.mono (fun q _ e e2=>e (.inl e2)))
  clear h1 hf
  have c4:w3.cell? ⟨i,5,none⟩=some (.int .i64 h.word):=cell_of_blk HB3.out _
  have f4:w3.frozen? ⟨i,5,none⟩=false:=froz_of_blk HB3.out _
  obtain ⟨w4,hw4⟩: ∃u,w3.setCell ⟨i,5,none⟩ (.int .i64 0)=u:=⟨_,rfl⟩
  have hf:Fr (fun q=>q=i) w3 w4:=by rw [←hw4];exact (Fr.refl (fun q=>q=i) w3).setb 5 _
  have HB4:Hid (w4.heap[i]?=some (.cells ((Rs.icells ({{h with name:= []} with name:= [],word:=0}:Rs.Item) c d n l).toArray) 49 (0,0))):=by rw [←hw4];exact blk_set HB3.out 5 _
  have HW4:Hid (WR G (fun q=>P q∨q=i) b k s3 w4):=HW3.out.fr hf (fun q e=>⟨.inr e,by have e:q=i:=e;subst e;exact Nat.le_of_not_lt fun h=>HI.out (HG.out _ h)⟩)
  have HF4:Hid (Fr (fun q=> ¬P q) w w4):=HF3.out.trans (hf.mono (fun q _ e e2=>by have e:q=i:=e;subst e;exact HI.out e2))
  clear hf
  have s4_:True:=trivial
  obtain ⟨s4,HS4⟩: ∃z,Hid (s3.app []=z):=⟨_,rfl⟩
  have n4:s4.n≤s3.n:=by rw [←HS4.out];exact Nat.le_refl _
  have HW4:Hid (WR G (fun q=>P q∨q=i) b k s4 w4):=by rw [←HS4.out];exact HW4.out
  by_cases hq5:h.unit= []
  ·have hc5:=hdd hq5
   have cb18:w4.cell? ⟨i,18,none⟩=some (.string ⟨#[]⟩):=(cell_of_blk HB4.out 18).trans (by show some (sv h.unit)=_;rw [hq5])
   have HUN:=hdd hq5
   clear hq5
   go_wp2_with fail
   refine (words_new HW4.out [[59]] _ rfl _ _ (by decide) (by show s4.n+2*1≤lim;omega)).mono ?_
   rintro e w6 ⟨rfl,h1,hf⟩
   clear c4 f4 hw4 s4_ cb18
   have hl6:([[59]]:List Rs.Bytes).length≤1:=by decide
   obtain ⟨s6,HS6⟩: ∃z,Hid (s4.app [[59]]=z):=⟨_,rfl⟩
   have n6:s6.n≤s4.n+2*1:=by rw [←HS6.out,St.app_n];have:=hl6;omega
   have HW6:Hid (WR G (fun q=>P q∨q=i) b k s6 w6):=by rw [←HS6.out];exact h1
   have HB6:Hid (w6.heap[i]?=some (.cells ((Rs.icells ({{h with name:= []} with name:= [],word:=0}:Rs.Item) c d n l).toArray) 49 (0,0))):=hf.blk HB4.out (fun e=>e (.inr rfl))
   have HF6:Hid (Fr (fun q=> ¬P q) w w6):=HF4.out.trans (hf.mono (fun q _ e e2=>e (.inl e2)))
   clear h1 hf
   go_wp2_with fail
   first|go_end0|refine bodyPost_ret (results_none rfl _ _ _) rfl ?_
   exact .inr ⟨ts1++([[103,111,111,100,115]]++([]++([[59]]))),(by show unit h=some _;unfold unit;rw [HT1.out,(show unitWord h.word=ok [[103,111,111,100,115]] from if_pos hc2.out),if_pos hc5.out]<;>(first|rfl|simp [cat,ok,natureT,semi])),rfl,⟨(by rw [←St.app_app,HS1.out,←St.app_app,HS3.out,←St.app_app,HS4.out,HS6.out];exact HW6.out),(by unfold unitLeft;rw [if_pos hc5.out];exact HB6.out)⟩,HF6.out⟩
  have hc5:=hdd hq5
  have cb18:w4.cell? ⟨i,18,none⟩=some (.string ⟨h.unit.toArray⟩):=cell_of_blk HB4.out 18
  have qb18:(h.unit== [])=false:=by simpa using hq5
  have qc18:(h.unit != [])=true:=by simpa using hq5
  have HUN:=hdd hq5
  clear hq5
  go_wp2_with fail
  refine (words_new HW4.out [[61]] _ rfl _ _ (by decide) (by show s4.n+2*1≤lim;omega)).mono ?_
  rintro e w7 ⟨rfl,h1,hf⟩
  clear c4 f4 hw4 s4_ cb18 qb18 qc18
  have hl7:([[61]]:List Rs.Bytes).length≤1:=by decide
  obtain ⟨s7,HS7⟩: ∃z,Hid (s4.app [[61]]=z):=⟨_,rfl⟩
  have n7:s7.n≤s4.n+2*1:=by rw [←HS7.out,St.app_n];have:=hl7;omega
  have HW7:Hid (WR G (fun q=>P q∨q=i) b k s7 w7):=by rw [←HS7.out];exact h1
  have HB7:Hid (w7.heap[i]?=some (.cells ((Rs.icells ({{h with name:= []} with name:= [],word:=0}:Rs.Item) c d n l).toArray) 49 (0,0))):=hf.blk HB4.out (fun e=>e (.inr rfl))
  have HF7:Hid (Fr (fun q=> ¬P q) w w7):=HF4.out.trans (hf.mono (fun q _ e e2=>e (.inl e2)))
  clear h1 hf
  go_wp2_with fail
  refine (amount_any HW7.out HI.out HG.out HB7.out (by constructor<;>first|exact HO.out.name|exact HO.out.of_|exact HO.out.act|exact HO.out.by_|exact HO.out.til|exact HO.out.unit|exact HO.out.sum|exact HO.out.give|exact HO.out.to_|exact HO.out.wn|exact HO.out.gn|exact left_len HO.out.wn|exact left_len HO.out.gn|exact HO.out.conds|exact HO.out.names|exact Nat.zero_le _) (by omega)).mono ?_
  rintro e w8 (⟨ht,rfl,hf⟩|⟨ts8,ht,rfl,⟨h1,hb⟩,hf⟩)
  ·have ht:amount h.num h.unit=none:=(by exact ht)
   exact ⟨rfl,.inl ⟨(by show unit h=none;unfold unit;rw [HT1.out,(show unitWord h.word=ok [[103,111,111,100,115]] from if_pos hc2.out),if_neg hc5.out,ht]<;>rfl),rfl,HF7.out.trans hf⟩⟩
  have ht:amount h.num h.unit=some ts8:=(by exact ht)
  have hl8:ts8.length≤4:=amount_le _ ht
  have HT8:=hdd ht
  obtain ⟨s8,HS8⟩: ∃z,Hid (s7.app ts8=z):=⟨_,rfl⟩
  have n8:s8.n≤s7.n+2*4:=by rw [←HS8.out,St.app_n];have:=hl8;omega
  have HW8:Hid (WR G (fun q=>P q∨q=i) b k s8 w8):=by rw [←HS8.out];exact h1
  have HB8:Hid (w8.heap[i]?=some (.cells ((Rs.icells (amountLeft ({{h with name:= []} with name:= [],word:=0}):Rs.Item) c d n l).toArray) 49 (0,0))):=hb
  have HF8:Hid (Fr (fun q=> ¬P q) w w8):=HF7.out.trans hf
  clear hb ht
  clear h1 hf
  go_wp2_with fail
  refine (words_new HW8.out [[59]] _ rfl _ _ (by decide) (by show s8.n+2*1≤lim;omega)).mono ?_
  rintro e w9 ⟨rfl,h1,hf⟩
  have hl9:([[59]]:List Rs.Bytes).length≤1:=by decide
  obtain ⟨s9,HS9⟩: ∃z,Hid (s8.app [[59]]=z):=⟨_,rfl⟩
  have n9:s9.n≤s8.n+2*1:=by rw [←HS9.out,St.app_n];have:=hl9;omega
  have HW9:Hid (WR G (fun q=>P q∨q=i) b k s9 w9):=by rw [←HS9.out];exact h1
  have HB9:Hid (w9.heap[i]?=some (.cells ((Rs.icells (amountLeft ({{h with name:= []} with name:= [],word:=0}):Rs.Item) c d n l).toArray) 49 (0,0))):=hf.blk HB8.out (fun e=>e (.inr rfl))
  have HF9:Hid (Fr (fun q=> ¬P q) w w9):=HF8.out.trans (hf.mono (fun q _ e e2=>e (.inl e2)))
  clear h1 hf
  go_wp2_with fail
  first|go_end0|refine bodyPost_ret (results_none rfl _ _ _) rfl ?_
  exact .inr ⟨ts1++([[103,111,111,100,115]]++([]++([[61]]++(ts8++([[59]]))))),(by show unit h=some _;unfold unit;rw [HT1.out,(show unitWord h.word=ok [[103,111,111,100,115]] from if_pos hc2.out),if_neg hc5.out,HT8.out]<;>(first|rfl|simp [cat,ok,natureT,semi])),rfl,⟨(by rw [←St.app_app,HS1.out,←St.app_app,HS3.out,←St.app_app,HS4.out,←St.app_app,HS7.out,←St.app_app,HS8.out,HS9.out];exact HW9.out),(by unfold unitLeft;rw [if_neg hc5.out];exact HB9.out)⟩,HF9.out⟩
 have hc2:=hdd hq2
 have cb5:w1.cell? ⟨i,5,none⟩=some (.int .i64 h.word):=cell_of_blk HB1.out 5
 have qa1:(h.word==1)=false:=beq_eq_false_iff_ne.2 hq2
 have HK1:=hdd hq2
 clear hq2
 by_cases hq10:h.word=2
 ·have hc10:=hdd hq10
  have qa2:(h.word==2)=true:=beq_iff_eq.2 hq10
  have HK2:=hdd hq10
  clear hq10
  go_wp2_with fail
  refine (words_new HW1.out [[109,111,110,101,121]] _ rfl _ _ (by decide) (by show s1.n+2*1≤lim;omega)).mono ?_
  rintro e w11 ⟨rfl,h1,hf⟩
  clear cb5 qa1 qa2
  have hl11:([[109,111,110,101,121]]:List Rs.Bytes).length≤1:=by decide
  obtain ⟨s11,HS11⟩: ∃z,Hid (s1.app [[109,111,110,101,121]]=z):=⟨_,rfl⟩
  have n11:s11.n≤s1.n+2*1:=by rw [←HS11.out,St.app_n];have:=hl11;omega
  have HW11:Hid (WR G (fun q=>P q∨q=i) b k s11 w11):=by rw [←HS11.out];exact h1
  have HB11:Hid (w11.heap[i]?=some (.cells ((Rs.icells ({h with name:= []}:Rs.Item) c d n l).toArray) 49 (0,0))):=hf.blk HB1.out (fun e=>e (.inr rfl))
  have HF11:Hid (Fr (fun q=> ¬P q) w w11):=HF1.out.trans (hf.mono (fun q _ e e2=>e (.inl e2)))
  clear h1 hf
  have c12:w11.cell? ⟨i,5,none⟩=some (.int .i64 h.word):=cell_of_blk HB11.out _
  have f12:w11.frozen? ⟨i,5,none⟩=false:=froz_of_blk HB11.out _
  obtain ⟨w12,hw12⟩: ∃u,w11.setCell ⟨i,5,none⟩ (.int .i64 0)=u:=⟨_,rfl⟩
  have hf:Fr (fun q=>q=i) w11 w12:=by rw [←hw12];exact (Fr.refl (fun q=>q=i) w11).setb 5 _
  have HB12:Hid (w12.heap[i]?=some (.cells ((Rs.icells ({{h with name:= []} with name:= [],word:=0}:Rs.Item) c d n l).toArray) 49 (0,0))):=by rw [←hw12];exact blk_set HB11.out 5 _
  have HW12:Hid (WR G (fun q=>P q∨q=i) b k s11 w12):=HW11.out.fr hf (fun q e=>⟨.inr e,by have e:q=i:=e;subst e;exact Nat.le_of_not_lt fun h=>HI.out (HG.out _ h)⟩)
  have HF12:Hid (Fr (fun q=> ¬P q) w w12):=HF11.out.trans (hf.mono (fun q _ e e2=>by have e:q=i:=e;subst e;exact HI.out e2))
  clear hf
  have s12_:True:=trivial
  obtain ⟨s12,HS12⟩: ∃z,Hid (s11.app []=z):=⟨_,rfl⟩
  have n12:s12.n≤s11.n:=by rw [←HS12.out];exact Nat.le_refl _
  have HW12:Hid (WR G (fun q=>P q∨q=i) b k s12 w12):=by rw [←HS12.out];exact HW12.out
  by_cases hq13:h.unit= []
  ·have hc13:=hdd hq13
   have cb18:w12.cell? ⟨i,18,none⟩=some (.string ⟨#[]⟩):=(cell_of_blk HB12.out 18).trans (by show some (sv h.unit)=_;rw [hq13])
   have HUN:=hdd hq13
   clear hq13
   go_wp2_with fail
   refine (words_new HW12.out [[59]] _ rfl _ _ (by decide) (by show s12.n+2*1≤lim;omega)).mono ?_
   rintro e w14 ⟨rfl,h1,hf⟩
   clear c12 f12 hw12 s12_ cb18
   have hl14:([[59]]:List Rs.Bytes).length≤1:=by decide
   obtain ⟨s14,HS14⟩: ∃z,Hid (s12.app [[59]]=z):=⟨_,rfl⟩
   have n14:s14.n≤s12.n+2*1:=by rw [←HS14.out,St.app_n];have:=hl14;omega
   have HW14:Hid (WR G (fun q=>P q∨q=i) b k s14 w14):=by rw [←HS14.out];exact h1
   have HB14:Hid (w14.heap[i]?=some (.cells ((Rs.icells ({{h with name:= []} with name:= [],word:=0}:Rs.Item) c d n l).toArray) 49 (0,0))):=hf.blk HB12.out (fun e=>e (.inr rfl))
   have HF14:Hid (Fr (fun q=> ¬P q) w w14):=HF12.out.trans (hf.mono (fun q _ e e2=>e (.inl e2)))
   clear h1 hf
   go_wp2_with fail
   first|go_end0|refine bodyPost_ret (results_none rfl _ _ _) rfl ?_
   exact .inr ⟨ts1++([[109,111,110,101,121]]++([]++([[59]]))),(by show unit h=some _;unfold unit;rw [HT1.out,(show unitWord h.word=ok [[109,111,110,101,121]] from (if_neg HK1.out).trans (if_pos hc10.out)),if_pos hc13.out]<;>(first|rfl|simp [cat,ok,natureT,semi])),rfl,⟨(by rw [←St.app_app,HS1.out,←St.app_app,HS11.out,←St.app_app,HS12.out,HS14.out];exact HW14.out),(by unfold unitLeft;rw [if_pos hc13.out];exact HB14.out)⟩,HF14.out⟩
  have hc13:=hdd hq13
  have cb18:w12.cell? ⟨i,18,none⟩=some (.string ⟨h.unit.toArray⟩):=cell_of_blk HB12.out 18
  have qb18:(h.unit== [])=false:=by simpa using hq13
  have qc18:(h.unit != [])=true:=by simpa using hq13
  have HUN:=hdd hq13
  clear hq13
  go_wp2_with fail
  refine (words_new HW12.out [[61]] _ rfl _ _ (by decide) (by show s12.n+2*1≤lim;omega)).mono ?_
  rintro e w15 ⟨rfl,h1,hf⟩
  clear c12 f12 hw12 s12_ cb18 qb18 qc18
  have hl15:([[61]]:List Rs.Bytes).length≤1:=by decide
  obtain ⟨s15,HS15⟩: ∃z,Hid (s12.app [[61]]=z):=⟨_,rfl⟩
  have n15:s15.n≤s12.n+2*1:=by rw [←HS15.out,St.app_n];have:=hl15;omega
  have HW15:Hid (WR G (fun q=>P q∨q=i) b k s15 w15):=by rw [←HS15.out];exact h1
  have HB15:Hid (w15.heap[i]?=some (.cells ((Rs.icells ({{h with name:= []} with name:= [],word:=0}:Rs.Item) c d n l).toArray) 49 (0,0))):=hf.blk HB12.out (fun e=>e (.inr rfl))
  have HF15:Hid (Fr (fun q=> ¬P q) w w15):=HF12.out.trans (hf.mono (fun q _ e e2=>e (.inl e2)))
  clear h1 hf
  go_wp2_with fail
  refine (amount_any HW15.out HI.out HG.out HB15.out (by constructor<;>first|exact HO.out.name|exact HO.out.of_|exact HO.out.act|exact HO.out.by_|exact HO.out.til|exact HO.out.unit|exact HO.out.sum|exact HO.out.give|exact HO.out.to_|exact HO.out.wn|exact HO.out.gn|exact left_len HO.out.wn|exact left_len HO.out.gn|exact HO.out.conds|exact HO.out.names|exact Nat.zero_le _) (by omega)).mono ?_
  rintro e w16 (⟨ht,rfl,hf⟩|⟨ts16,ht,rfl,⟨h1,hb⟩,hf⟩)
  ·have ht:amount h.num h.unit=none:=(by exact ht)
   exact ⟨rfl,.inl ⟨(by show unit h=none;unfold unit;rw [HT1.out,(show unitWord h.word=ok [[109,111,110,101,121]] from (if_neg HK1.out).trans (if_pos hc10.out)),if_neg hc13.out,ht]<;>rfl),rfl,HF15.out.trans hf⟩⟩
  have ht:amount h.num h.unit=some ts16:=(by exact ht)
  have hl16:ts16.length≤4:=amount_le _ ht
  have HT16:=hdd ht
  obtain ⟨s16,HS16⟩: ∃z,Hid (s15.app ts16=z):=⟨_,rfl⟩
  have n16:s16.n≤s15.n+2*4:=by rw [←HS16.out,St.app_n];have:=hl16;omega
  have HW16:Hid (WR G (fun q=>P q∨q=i) b k s16 w16):=by rw [←HS16.out];exact h1
  have HB16:Hid (w16.heap[i]?=some (.cells ((Rs.icells (amountLeft ({{h with name:= []} with name:= [],word:=0}):Rs.Item) c d n l).toArray) 49 (0,0))):=hb
  have HF16:Hid (Fr (fun q=> ¬P q) w w16):=HF15.out.trans hf
  clear hb ht
  clear h1 hf
  go_wp2_with fail
  refine (words_new HW16.out [[59]] _ rfl _ _ (by decide) (by show s16.n+2*1≤lim;omega)).mono ?_
  rintro e w17 ⟨rfl,h1,hf⟩
  have hl17:([[59]]:List Rs.Bytes).length≤1:=by decide
  obtain ⟨s17,HS17⟩: ∃z,Hid (s16.app [[59]]=z):=⟨_,rfl⟩
  have n17:s17.n≤s16.n+2*1:=by rw [←HS17.out,St.app_n];have:=hl17;omega
  have HW17:Hid (WR G (fun q=>P q∨q=i) b k s17 w17):=by rw [←HS17.out];exact h1
  have HB17:Hid (w17.heap[i]?=some (.cells ((Rs.icells (amountLeft ({{h with name:= []} with name:= [],word:=0}):Rs.Item) c d n l).toArray) 49 (0,0))):=hf.blk HB16.out (fun e=>e (.inr rfl))
  have HF17:Hid (Fr (fun q=> ¬P q) w w17):=HF16.out.trans (hf.mono (fun q _ e e2=>e (.inl e2)))
  clear h1 hf
  go_wp2_with fail
  first|go_end0|refine bodyPost_ret (results_none rfl _ _ _) rfl ?_
  exact .inr ⟨ts1++([[109,111,110,101,121]]++([]++([[61]]++(ts16++([[59]]))))),(by show unit h=some _;unfold unit;rw [HT1.out,(show unitWord h.word=ok [[109,111,110,101,121]] from (if_neg HK1.out).trans (if_pos hc10.out)),if_neg hc13.out,HT16.out]<;>(first|rfl|simp [cat,ok,natureT,semi])),rfl,⟨(by rw [←St.app_app,HS1.out,←St.app_app,HS11.out,←St.app_app,HS12.out,←St.app_app,HS15.out,←St.app_app,HS16.out,HS17.out];exact HW17.out),(by unfold unitLeft;rw [if_neg hc13.out];exact HB17.out)⟩,HF17.out⟩
 have hc10:=hdd hq10
 have qa2:(h.word==2)=false:=beq_eq_false_iff_ne.2 hq10
 have HK2:=hdd hq10
 clear hq10
 go_wp2_with fail
 exact ⟨rfl,.inl ⟨(by show unit h=none;unfold unit;rw [HT1.out,(show unitWord h.word=none from (if_neg HK1.out).trans (if_neg hc10.out))]<;>rfl),rfl,HF1.out⟩⟩
theorem act_any {G:Nat} {P:Nat→Prop} {b:Nat} {k:Value} {s:St} {w:World} {i:Nat} {h:Rs.Item} {c d n l:Value} (hw:WR G (fun q=>P q∨q=i) b k s w) (hi: ¬P i) (hG: ∀q,q<G→P q) (hb:w.heap[i]?=some (.cells (Rs.icells h c d n l).toArray 49 (0,0))) (ho:Ok h) (hn:s.n+100≤lim):
  Calls Tryz.prog 85 #[.pointer (some ⟨b,0,none⟩),.pointer (some ⟨i,0,none⟩)] w (Out P (act h) (fun ts w'=>WR G (fun q=>P q∨q=i) b k (s.app ts) w'∧w'.heap[i]?=some (.cells ((Rs.icells (actLeft h:Rs.Item) c d n l).toArray) 49 (0,0))) w):=by
 have HW0:=hdd hw;have HI:=hdd hi;have HG:=hdd hG;have HB0:=hdd hb;have HO:=hdd ho
 have HF0:Hid (Fr (fun q=> ¬P q) w w):=Fr.refl _ _
 clear hw hi hG hb ho
 go_enter Tryz.func85,Tryz.ntmps85
 go_wp2_with fail
 refine (begin_any HW0.out HI.out HG.out HB0.out (by constructor<;>first|exact HO.out.name|exact HO.out.of_|exact HO.out.act|exact HO.out.by_|exact HO.out.til|exact HO.out.unit|exact HO.out.sum|exact HO.out.give|exact HO.out.to_|exact HO.out.wn|exact HO.out.gn|exact left_len HO.out.wn|exact left_len HO.out.gn|exact HO.out.conds|exact HO.out.names|exact Nat.zero_le _) (by omega) [97,99,116] (by decide)).mono ?_
 rintro e w1 (⟨ht,rfl,hf⟩|⟨ts1,ht,rfl,⟨h1,hb⟩,hf⟩)
 ·have ht:begin_ [97,99,116] h=none:=(by exact ht)
  exact ⟨rfl,.inl ⟨(by show act h=none;unfold act;rw [ht]<;>rfl),rfl,HF0.out.trans hf⟩⟩
 have ht:begin_ [97,99,116] h=some ts1:=(by exact ht)
 have hl1:ts1.length≤2:=begin_le _ ht
 have HT1:=hdd ht
 obtain ⟨s1,HS1⟩: ∃z,Hid (s.app ts1=z):=⟨_,rfl⟩
 have n1:s1.n≤s.n+2*2:=by rw [←HS1.out,St.app_n];have:=hl1;omega
 have HW1:Hid (WR G (fun q=>P q∨q=i) b k s1 w1):=by rw [←HS1.out];exact h1
 have HB1:Hid (w1.heap[i]?=some (.cells ((Rs.icells ({h with name:= []}:Rs.Item) c d n l).toArray) 49 (0,0))):=hb
 have HF1:Hid (Fr (fun q=> ¬P q) w w1):=HF0.out.trans hf
 clear hb ht
 clear h1 hf
 go_wp2_with fail
 refine (words_new HW1.out [[98,121]] _ rfl _ _ (by decide) (by show s1.n+2*1≤lim;omega)).mono ?_
 rintro e w2 ⟨rfl,h1,hf⟩
 have hl2:([[98,121]]:List Rs.Bytes).length≤1:=by decide
 obtain ⟨s2,HS2⟩: ∃z,Hid (s1.app [[98,121]]=z):=⟨_,rfl⟩
 have n2:s2.n≤s1.n+2*1:=by rw [←HS2.out,St.app_n];have:=hl2;omega
 have HW2:Hid (WR G (fun q=>P q∨q=i) b k s2 w2):=by rw [←HS2.out];exact h1
 have HB2:Hid (w2.heap[i]?=some (.cells ((Rs.icells ({h with name:= []}:Rs.Item) c d n l).toArray) 49 (0,0))):=hf.blk HB1.out (fun e=>e (.inr rfl))
 have HF2:Hid (Fr (fun q=> ¬P q) w w2):=HF1.out.trans (hf.mono (fun q _ e e2=>e (.inl e2)))
 clear h1 hf
 by_cases hq3:h.of_=natureT
 ·have hc3:=hdd hq3
  have cb3:w2.cell? ⟨i,3,none⟩=some (.string ⟨#[110,97,116,117,114,101]⟩):=(cell_of_blk HB2.out 3).trans (by show some (sv h.of_)=_;rw [hq3];rfl)
  clear hq3
  go_wp2_with fail
  exact ⟨rfl,.inl ⟨(by show act h=none;unfold act;rw [HT1.out,(show actOf h.of_=none from if_pos hc3.out)]<;>rfl),rfl,HF2.out⟩⟩
 have hc3:=hdd hq3
 have HNA:=hdd hq3
 have qn3:(h.of_== [110,97,116,117,114,101])=false:=by simpa [natureT] using hq3
 clear hq3
 by_cases hq5:h.of_= []
 ·have hc5:=hdd hq5
  have cb3:w2.cell? ⟨i,3,none⟩=some (.string ⟨#[]⟩):=(cell_of_blk HB2.out 3).trans (by show some (sv h.of_)=_;rw [hq5])
  have HOF:=hdd hq5
  clear hq5
  go_wp2_with fail
  refine (words_new HW2.out [[110,97,116,117,114,101]] _ rfl _ _ (by decide) (by show s2.n+2*1≤lim;omega)).mono ?_
  rintro e w6 ⟨rfl,h1,hf⟩
  clear qn3 cb3
  have hl6:([[110,97,116,117,114,101]]:List Rs.Bytes).length≤1:=by decide
  obtain ⟨s6,HS6⟩: ∃z,Hid (s2.app [[110,97,116,117,114,101]]=z):=⟨_,rfl⟩
  have n6:s6.n≤s2.n+2*1:=by rw [←HS6.out,St.app_n];have:=hl6;omega
  have HW6:Hid (WR G (fun q=>P q∨q=i) b k s6 w6):=by rw [←HS6.out];exact h1
  have HB6:Hid (w6.heap[i]?=some (.cells ((Rs.icells ({h with name:= []}:Rs.Item) c d n l).toArray) 49 (0,0))):=hf.blk HB2.out (fun e=>e (.inr rfl))
  have HF6:Hid (Fr (fun q=> ¬P q) w w6):=HF2.out.trans (hf.mono (fun q _ e e2=>e (.inl e2)))
  clear h1 hf
  have HB7:Hid (w6.heap[i]?=some (.cells ((Rs.icells ({{h with name:= []} with of_:= []}:Rs.Item) c d n l).toArray) 49 (0,0))):=by
   have hb:=HB6.out
   rw [HOF.out] at hb
   exact hb
  have HW7:=HW6;have HF7:=HF6
  obtain ⟨s7,HS7⟩: ∃z,Hid (s6.app []=z):=⟨_,rfl⟩
  have n7:s7.n≤s6.n:=by rw [←HS7.out];exact Nat.le_refl _
  have HW7:Hid (WR G (fun q=>P q∨q=i) b k s7 w6):=by rw [←HS7.out];exact HW7.out
  by_cases hq8:h.word=2
  ·have hc8:=hdd hq8
   have cb5:w6.cell? ⟨i,5,none⟩=some (.int .i64 2):=(cell_of_blk HB7.out 5).trans (by show some (Value.int .i64 h.word)=_;rw [hq8])
   have HK2:=hdd hq8
   clear hq8
   go_wp2_with fail
   refine (words_new HW7.out [[97,115,115,105,103,110,115]] _ rfl _ _ (by decide) (by show s7.n+2*1≤lim;omega)).mono ?_
   rintro e w9 ⟨rfl,h1,hf⟩
   clear cb5
   have hl9:([[97,115,115,105,103,110,115]]:List Rs.Bytes).length≤1:=by decide
   obtain ⟨s9,HS9⟩: ∃z,Hid (s7.app [[97,115,115,105,103,110,115]]=z):=⟨_,rfl⟩
   have n9:s9.n≤s7.n+2*1:=by rw [←HS9.out,St.app_n];have:=hl9;omega
   have HW9:Hid (WR G (fun q=>P q∨q=i) b k s9 w9):=by rw [←HS9.out];exact h1
   have HB9:Hid (w9.heap[i]?=some (.cells ((Rs.icells ({{h with name:= []} with of_:= []}:Rs.Item) c d n l).toArray) 49 (0,0))):=hf.blk HB7.out (fun e=>e (.inr rfl))
   have HF9:Hid (Fr (fun q=> ¬P q) w w9):=HF7.out.trans (hf.mono (fun q _ e e2=>e (.inl e2)))
   clear h1 hf
   go_wp2_with fail
   refine (name_any HW9.out HI.out HG.out (h.give) HB9.out rfl (by exact HO.out.give) (by omega)).mono ?_
   rintro e w10 (⟨ht,rfl,hf⟩|⟨ts10,ht,rfl,⟨h1,hb⟩,hf⟩)
   ·have ht:name (h.give)=none:=(by exact ht)
    exact ⟨rfl,.inl ⟨(by show act h=none;unfold act;rw [HT1.out,(show actOf h.of_=ok [natureT] from (if_neg HNA.out).trans (if_pos hc5.out)),(show actWord h=cat (ok [[97,115,115,105,103,110,115]]) (cat (name h.give) (cat (ok [[116,111]]) (name h.to_))) from (if_pos (.inl hc8.out)).trans (by rw [if_pos hc8.out])),ht]<;>rfl),rfl,HF9.out.trans hf⟩⟩
   have ht:name (h.give)=some ts10:=(by exact ht)
   have hl10:ts10.length≤1:=name_le _ ht
   have HT10:=hdd ht
   obtain ⟨s10,HS10⟩: ∃z,Hid (s9.app ts10=z):=⟨_,rfl⟩
   have n10:s10.n≤s9.n+2*1:=by rw [←HS10.out,St.app_n];have:=hl10;omega
   have HW10:Hid (WR G (fun q=>P q∨q=i) b k s10 w10):=by rw [←HS10.out];exact h1
   have HB10:Hid (w10.heap[i]?=some (.cells ((Rs.icells ({{{h with name:= []} with of_:= []} with give:= []}:Rs.Item) c d n l).toArray) 49 (0,0))):=hb
   have HF10:Hid (Fr (fun q=> ¬P q) w w10):=HF9.out.trans hf
   clear hb ht
   clear h1 hf
   go_wp2_with fail
   refine (words_new HW10.out [[116,111]] _ rfl _ _ (by decide) (by show s10.n+2*1≤lim;omega)).mono ?_
   rintro e w11 ⟨rfl,h1,hf⟩
   have hl11:([[116,111]]:List Rs.Bytes).length≤1:=by decide
   obtain ⟨s11,HS11⟩: ∃z,Hid (s10.app [[116,111]]=z):=⟨_,rfl⟩
   have n11:s11.n≤s10.n+2*1:=by rw [←HS11.out,St.app_n];have:=hl11;omega
   have HW11:Hid (WR G (fun q=>P q∨q=i) b k s11 w11):=by rw [←HS11.out];exact h1
   have HB11:Hid (w11.heap[i]?=some (.cells ((Rs.icells ({{{h with name:= []} with of_:= []} with give:= []}:Rs.Item) c d n l).toArray) 49 (0,0))):=hf.blk HB10.out (fun e=>e (.inr rfl))
   have HF11:Hid (Fr (fun q=> ¬P q) w w11):=HF10.out.trans (hf.mono (fun q _ e e2=>e (.inl e2)))
   clear h1 hf
   go_wp2_with fail
   refine (name_any HW11.out HI.out HG.out (h.to_) HB11.out rfl (by exact HO.out.to_) (by omega)).mono ?_
   rintro e w12 (⟨ht,rfl,hf⟩|⟨ts12,ht,rfl,⟨h1,hb⟩,hf⟩)
   ·have ht:name (h.to_)=none:=(by exact ht)
    exact ⟨rfl,.inl ⟨(by show act h=none;unfold act;rw [HT1.out,(show actOf h.of_=ok [natureT] from (if_neg HNA.out).trans (if_pos hc5.out)),(show actWord h=cat (ok [[97,115,115,105,103,110,115]]) (cat (name h.give) (cat (ok [[116,111]]) (name h.to_))) from (if_pos (.inl hc8.out)).trans (by rw [if_pos hc8.out])),HT10.out,ht]<;>rfl),rfl,HF11.out.trans hf⟩⟩
   have ht:name (h.to_)=some ts12:=(by exact ht)
   have hl12:ts12.length≤1:=name_le _ ht
   have HT12:=hdd ht
   obtain ⟨s12,HS12⟩: ∃z,Hid (s11.app ts12=z):=⟨_,rfl⟩
   have n12:s12.n≤s11.n+2*1:=by rw [←HS12.out,St.app_n];have:=hl12;omega
   have HW12:Hid (WR G (fun q=>P q∨q=i) b k s12 w12):=by rw [←HS12.out];exact h1
   have HB12:Hid (w12.heap[i]?=some (.cells ((Rs.icells ({{{{h with name:= []} with of_:= []} with give:= []} with to_:= []}:Rs.Item) c d n l).toArray) 49 (0,0))):=hb
   have HF12:Hid (Fr (fun q=> ¬P q) w w12):=HF11.out.trans hf
   clear hb ht
   clear h1 hf
   have c13:w12.cell? ⟨i,5,none⟩=some (.int .i64 h.word):=cell_of_blk HB12.out _
   have f13:w12.frozen? ⟨i,5,none⟩=false:=froz_of_blk HB12.out _
   obtain ⟨w13,hw13⟩: ∃u,w12.setCell ⟨i,5,none⟩ (.int .i64 0)=u:=⟨_,rfl⟩
   have hf:Fr (fun q=>q=i) w12 w13:=by rw [←hw13];exact (Fr.refl (fun q=>q=i) w12).setb 5 _
   have HB13:Hid (w13.heap[i]?=some (.cells ((Rs.icells ({{{{{h with name:= []} with of_:= []} with give:= []} with to_:= []} with word:=0}:Rs.Item) c d n l).toArray) 49 (0,0))):=by rw [←hw13];exact blk_set HB12.out 5 _
   have HW13:Hid (WR G (fun q=>P q∨q=i) b k s12 w13):=HW12.out.fr hf (fun q e=>⟨.inr e,by have e:q=i:=e;subst e;exact Nat.le_of_not_lt fun h=>HI.out (HG.out _ h)⟩)
   have HF13:Hid (Fr (fun q=> ¬P q) w w13):=HF12.out.trans (hf.mono (fun q _ e e2=>by have e:q=i:=e;subst e;exact HI.out e2))
   clear hf
   have s13_:True:=trivial
   obtain ⟨s13,HS13⟩: ∃z,Hid (s12.app []=z):=⟨_,rfl⟩
   have n13:s13.n≤s12.n:=by rw [←HS13.out];exact Nat.le_refl _
   have HW13:Hid (WR G (fun q=>P q∨q=i) b k s13 w13):=by rw [←HS13.out];exact HW13.out
   go_wp2_with fail
   refine (words_new HW13.out [[59]] _ rfl _ _ (by decide) (by show s13.n+2*1≤lim;omega)).mono ?_
   rintro e w14 ⟨rfl,h1,hf⟩
   clear c13 f13 hw13 s13_
   have hl14:([[59]]:List Rs.Bytes).length≤1:=by decide
   obtain ⟨s14,HS14⟩: ∃z,Hid (s13.app [[59]]=z):=⟨_,rfl⟩
   have n14:s14.n≤s13.n+2*1:=by rw [←HS14.out,St.app_n];have:=hl14;omega
   have HW14:Hid (WR G (fun q=>P q∨q=i) b k s14 w14):=by rw [←HS14.out];exact h1
   have HB14:Hid (w14.heap[i]?=some (.cells ((Rs.icells ({{{{{h with name:= []} with of_:= []} with give:= []} with to_:= []} with word:=0}:Rs.Item) c d n l).toArray) 49 (0,0))):=hf.blk HB13.out (fun e=>e (.inr rfl))
   have HF14:Hid (Fr (fun q=> ¬P q) w w14):=HF13.out.trans (hf.mono (fun q _ e e2=>e (.inl e2)))
   clear h1 hf
   go_wp2_with fail
   first|go_end0|refine bodyPost_ret (results_none rfl _ _ _) rfl ?_
   exact .inr ⟨ts1++([[98,121]]++([[110,97,116,117,114,101]]++([]++([[97,115,115,105,103,110,115]]++(ts10++([[116,111]]++(ts12++([]++([[59]]))))))))),(by show act h=some _;unfold act;rw [HT1.out,(show actOf h.of_=ok [natureT] from (if_neg HNA.out).trans (if_pos hc5.out)),(show actWord h=cat (ok [[97,115,115,105,103,110,115]]) (cat (name h.give) (cat (ok [[116,111]]) (name h.to_))) from (if_pos (.inl hc8.out)).trans (by rw [if_pos hc8.out])),HT10.out,HT12.out]<;>(first|rfl|simp [cat,ok,natureT,semi])),rfl,⟨(by rw [←St.app_app,HS1.out,←St.app_app,HS2.out,←St.app_app,HS6.out,←St.app_app,HS7.out,←St.app_app,HS9.out,←St.app_app,HS10.out,←St.app_app,HS11.out,←St.app_app,HS12.out,←St.app_app,HS13.out,HS14.out];exact HW14.out),(by unfold actLeft;rw [if_neg (by rw [hc8.out];decide)];exact HB14.out)⟩,HF14.out⟩
  have hc8:=hdd hq8
  have HK2:=hdd hq8
  clear hq8
  by_cases hq15:h.word=3
  ·have hc15:=hdd hq15
   have cb5:w6.cell? ⟨i,5,none⟩=some (.int .i64 3):=(cell_of_blk HB7.out 5).trans (by show some (Value.int .i64 h.word)=_;rw [hq15])
   have HK3:=hdd hq15
   clear hq15
   go_wp2_with fail
   refine (words_new HW7.out [[110,111,118,97,116,101,115]] _ rfl _ _ (by decide) (by show s7.n+2*1≤lim;omega)).mono ?_
   rintro e w16 ⟨rfl,h1,hf⟩
   clear cb5
   have hl16:([[110,111,118,97,116,101,115]]:List Rs.Bytes).length≤1:=by decide
   obtain ⟨s16,HS16⟩: ∃z,Hid (s7.app [[110,111,118,97,116,101,115]]=z):=⟨_,rfl⟩
   have n16:s16.n≤s7.n+2*1:=by rw [←HS16.out,St.app_n];have:=hl16;omega
   have HW16:Hid (WR G (fun q=>P q∨q=i) b k s16 w16):=by rw [←HS16.out];exact h1
   have HB16:Hid (w16.heap[i]?=some (.cells ((Rs.icells ({{h with name:= []} with of_:= []}:Rs.Item) c d n l).toArray) 49 (0,0))):=hf.blk HB7.out (fun e=>e (.inr rfl))
   have HF16:Hid (Fr (fun q=> ¬P q) w w16):=HF7.out.trans (hf.mono (fun q _ e e2=>e (.inl e2)))
   clear h1 hf
   go_wp2_with fail
   refine (name_any HW16.out HI.out HG.out (h.give) HB16.out rfl (by exact HO.out.give) (by omega)).mono ?_
   rintro e w17 (⟨ht,rfl,hf⟩|⟨ts17,ht,rfl,⟨h1,hb⟩,hf⟩)
   ·have ht:name (h.give)=none:=(by exact ht)
    exact ⟨rfl,.inl ⟨(by show act h=none;unfold act;rw [HT1.out,(show actOf h.of_=ok [natureT] from (if_neg HNA.out).trans (if_pos hc5.out)),(show actWord h=cat (ok [[110,111,118,97,116,101,115]]) (cat (name h.give) (cat (ok [[116,111]]) (name h.to_))) from (if_pos (.inr hc15.out)).trans (by rw [if_neg HK2.out])),ht]<;>rfl),rfl,HF16.out.trans hf⟩⟩
   have ht:name (h.give)=some ts17:=(by exact ht)
   have hl17:ts17.length≤1:=name_le _ ht
   have HT17:=hdd ht
   obtain ⟨s17,HS17⟩: ∃z,Hid (s16.app ts17=z):=⟨_,rfl⟩
   have n17:s17.n≤s16.n+2*1:=by rw [←HS17.out,St.app_n];have:=hl17;omega
   have HW17:Hid (WR G (fun q=>P q∨q=i) b k s17 w17):=by rw [←HS17.out];exact h1
   have HB17:Hid (w17.heap[i]?=some (.cells ((Rs.icells ({{{h with name:= []} with of_:= []} with give:= []}:Rs.Item) c d n l).toArray) 49 (0,0))):=hb
   have HF17:Hid (Fr (fun q=> ¬P q) w w17):=HF16.out.trans hf
   clear hb ht
   clear h1 hf
   go_wp2_with fail
   refine (words_new HW17.out [[116,111]] _ rfl _ _ (by decide) (by show s17.n+2*1≤lim;omega)).mono ?_
   rintro e w18 ⟨rfl,h1,hf⟩
   have hl18:([[116,111]]:List Rs.Bytes).length≤1:=by decide
   obtain ⟨s18,HS18⟩: ∃z,Hid (s17.app [[116,111]]=z):=⟨_,rfl⟩
   have n18:s18.n≤s17.n+2*1:=by rw [←HS18.out,St.app_n];have:=hl18;omega
   have HW18:Hid (WR G (fun q=>P q∨q=i) b k s18 w18):=by rw [←HS18.out];exact h1
   have HB18:Hid (w18.heap[i]?=some (.cells ((Rs.icells ({{{h with name:= []} with of_:= []} with give:= []}:Rs.Item) c d n l).toArray) 49 (0,0))):=hf.blk HB17.out (fun e=>e (.inr rfl))
   have HF18:Hid (Fr (fun q=> ¬P q) w w18):=HF17.out.trans (hf.mono (fun q _ e e2=>e (.inl e2)))
   clear h1 hf
   go_wp2_with fail
   refine (name_any HW18.out HI.out HG.out (h.to_) HB18.out rfl (by exact HO.out.to_) (by omega)).mono ?_
   rintro e w19 (⟨ht,rfl,hf⟩|⟨ts19,ht,rfl,⟨h1,hb⟩,hf⟩)
   ·have ht:name (h.to_)=none:=(by exact ht)
    exact ⟨rfl,.inl ⟨(by show act h=none;unfold act;rw [HT1.out,(show actOf h.of_=ok [natureT] from (if_neg HNA.out).trans (if_pos hc5.out)),(show actWord h=cat (ok [[110,111,118,97,116,101,115]]) (cat (name h.give) (cat (ok [[116,111]]) (name h.to_))) from (if_pos (.inr hc15.out)).trans (by rw [if_neg HK2.out])),HT17.out,ht]<;>rfl),rfl,HF18.out.trans hf⟩⟩
   have ht:name (h.to_)=some ts19:=(by exact ht)
   have hl19:ts19.length≤1:=name_le _ ht
   have HT19:=hdd ht
   obtain ⟨s19,HS19⟩: ∃z,Hid (s18.app ts19=z):=⟨_,rfl⟩
   have n19:s19.n≤s18.n+2*1:=by rw [←HS19.out,St.app_n];have:=hl19;omega
   have HW19:Hid (WR G (fun q=>P q∨q=i) b k s19 w19):=by rw [←HS19.out];exact h1
   have HB19:Hid (w19.heap[i]?=some (.cells ((Rs.icells ({{{{h with name:= []} with of_:= []} with give:= []} with to_:= []}:Rs.Item) c d n l).toArray) 49 (0,0))):=hb
   have HF19:Hid (Fr (fun q=> ¬P q) w w19):=HF18.out.trans hf
   clear hb ht
   clear h1 hf
   have c20:w19.cell? ⟨i,5,none⟩=some (.int .i64 h.word):=cell_of_blk HB19.out _
   have f20:w19.frozen? ⟨i,5,none⟩=false:=froz_of_blk HB19.out _
   obtain ⟨w20,hw20⟩: ∃u,w19.setCell ⟨i,5,none⟩ (.int .i64 0)=u:=⟨_,rfl⟩
   have hf:Fr (fun q=>q=i) w19 w20:=by rw [←hw20];exact (Fr.refl (fun q=>q=i) w19).setb 5 _
   have HB20:Hid (w20.heap[i]?=some (.cells ((Rs.icells ({{{{{h with name:= []} with of_:= []} with give:= []} with to_:= []} with word:=0}:Rs.Item) c d n l).toArray) 49 (0,0))):=by rw [←hw20];exact blk_set HB19.out 5 _
   have HW20:Hid (WR G (fun q=>P q∨q=i) b k s19 w20):=HW19.out.fr hf (fun q e=>⟨.inr e,by have e:q=i:=e;subst e;exact Nat.le_of_not_lt fun h=>HI.out (HG.out _ h)⟩)
   have HF20:Hid (Fr (fun q=> ¬P q) w w20):=HF19.out.trans (hf.mono (fun q _ e e2=>by have e:q=i:=e;subst e;exact HI.out e2))
   clear hf
   have s20_:True:=trivial
   obtain ⟨s20,HS20⟩: ∃z,Hid (s19.app []=z):=⟨_,rfl⟩
   have n20:s20.n≤s19.n:=by rw [←HS20.out];exact Nat.le_refl _
   have HW20:Hid (WR G (fun q=>P q∨q=i) b k s20 w20):=by rw [←HS20.out];exact HW20.out
   go_wp2_with fail
   refine (words_new HW20.out [[59]] _ rfl _ _ (by decide) (by show s20.n+2*1≤lim;omega)).mono ?_
   rintro e w21 ⟨rfl,h1,hf⟩
   clear c20 f20 hw20 s20_
   have hl21:([[59]]:List Rs.Bytes).length≤1:=by decide
   obtain ⟨s21,HS21⟩: ∃z,Hid (s20.app [[59]]=z):=⟨_,rfl⟩
   have n21:s21.n≤s20.n+2*1:=by rw [←HS21.out,St.app_n];have:=hl21;omega
   have HW21:Hid (WR G (fun q=>P q∨q=i) b k s21 w21):=by rw [←HS21.out];exact h1
   have HB21:Hid (w21.heap[i]?=some (.cells ((Rs.icells ({{{{{h with name:= []} with of_:= []} with give:= []} with to_:= []} with word:=0}:Rs.Item) c d n l).toArray) 49 (0,0))):=hf.blk HB20.out (fun e=>e (.inr rfl))
   have HF21:Hid (Fr (fun q=> ¬P q) w w21):=HF20.out.trans (hf.mono (fun q _ e e2=>e (.inl e2)))
   clear h1 hf
   go_wp2_with fail
   first|go_end0|refine bodyPost_ret (results_none rfl _ _ _) rfl ?_
   exact .inr ⟨ts1++([[98,121]]++([[110,97,116,117,114,101]]++([]++([[110,111,118,97,116,101,115]]++(ts17++([[116,111]]++(ts19++([]++([[59]]))))))))),(by show act h=some _;unfold act;rw [HT1.out,(show actOf h.of_=ok [natureT] from (if_neg HNA.out).trans (if_pos hc5.out)),(show actWord h=cat (ok [[110,111,118,97,116,101,115]]) (cat (name h.give) (cat (ok [[116,111]]) (name h.to_))) from (if_pos (.inr hc15.out)).trans (by rw [if_neg HK2.out])),HT17.out,HT19.out]<;>(first|rfl|simp [cat,ok,natureT,semi])),rfl,⟨(by rw [←St.app_app,HS1.out,←St.app_app,HS2.out,←St.app_app,HS6.out,←St.app_app,HS7.out,←St.app_app,HS16.out,←St.app_app,HS17.out,←St.app_app,HS18.out,←St.app_app,HS19.out,←St.app_app,HS20.out,HS21.out];exact HW21.out),(by unfold actLeft;rw [if_neg (by rw [hc15.out];decide)];exact HB21.out)⟩,HF21.out⟩
  have hc15:=hdd hq15
  have HK3:=hdd hq15
  clear hq15
  by_cases hq22:h.word=1
  ·have hc22:=hdd hq22
   have cb5:w6.cell? ⟨i,5,none⟩=some (.int .i64 1):=(cell_of_blk HB7.out 5).trans (by show some (Value.int .i64 h.word)=_;rw [hq22])
   have HK1:=hdd hq22
   clear hq22
   by_cases hq23:h.unit= []
   ·have hc23:=hdd hq23
    have cb18:w6.cell? ⟨i,18,none⟩=some (.string ⟨#[]⟩):=(cell_of_blk HB7.out 18).trans (by show some (sv h.unit)=_;rw [hq23])
    have HUN:=hdd hq23
    clear hq23
    by_cases hq24:h.to_= []
    ·have hc24:=hdd hq24
     have cb22:w6.cell? ⟨i,22,none⟩=some (.string ⟨#[]⟩):=(cell_of_blk HB7.out 22).trans (by show some (sv h.to_)=_;rw [hq24])
     have HTO:=hdd hq24
     clear hq24
     have HB25:Hid (w6.heap[i]?=some (.cells ((Rs.icells ({{{h with name:= []} with of_:= []} with to_:= []}:Rs.Item) c d n l).toArray) 49 (0,0))):=by
      have hb:=HB7.out
      rw [HTO.out] at hb
      exact hb
     have HW25:=HW7;have HF25:=HF7
     obtain ⟨s25,HS25⟩: ∃z,Hid (s7.app []=z):=⟨_,rfl⟩
     have n25:s25.n≤s7.n:=by rw [←HS25.out];exact Nat.le_refl _
     have HW25:Hid (WR G (fun q=>P q∨q=i) b k s25 w6):=by rw [←HS25.out];exact HW25.out
     have c26:w6.cell? ⟨i,5,none⟩=some (.int .i64 h.word):=cell_of_blk HB25.out _
     have f26:w6.frozen? ⟨i,5,none⟩=false:=froz_of_blk HB25.out _
     obtain ⟨w26,hw26⟩: ∃u,w6.setCell ⟨i,5,none⟩ (.int .i64 0)=u:=⟨_,rfl⟩
     have hf:Fr (fun q=>q=i) w6 w26:=by rw [←hw26];exact (Fr.refl (fun q=>q=i) w6).setb 5 _
     have HB26:Hid (w26.heap[i]?=some (.cells ((Rs.icells ({{{{h with name:= []} with of_:= []} with to_:= []} with word:=0}:Rs.Item) c d n l).toArray) 49 (0,0))):=by rw [←hw26];exact blk_set HB25.out 5 _
     have HW26:Hid (WR G (fun q=>P q∨q=i) b k s25 w26):=HW25.out.fr hf (fun q e=>⟨.inr e,by have e:q=i:=e;subst e;exact Nat.le_of_not_lt fun h=>HI.out (HG.out _ h)⟩)
     have HF26:Hid (Fr (fun q=> ¬P q) w w26):=HF25.out.trans (hf.mono (fun q _ e e2=>by have e:q=i:=e;subst e;exact HI.out e2))
     clear hf
     have s26_:True:=trivial
     obtain ⟨s26,HS26⟩: ∃z,Hid (s25.app []=z):=⟨_,rfl⟩
     have n26:s26.n≤s25.n:=by rw [←HS26.out];exact Nat.le_refl _
     have HW26:Hid (WR G (fun q=>P q∨q=i) b k s26 w26):=by rw [←HS26.out];exact HW26.out
     go_wp2_with fail
     refine (words_new HW26.out [[59]] _ rfl _ _ (by decide) (by show s26.n+2*1≤lim;omega)).mono ?_
     rintro e w27 ⟨rfl,h1,hf⟩
     clear cb5 cb18 cb22 c26 f26 hw26 s26_
     have hl27:([[59]]:List Rs.Bytes).length≤1:=by decide
     obtain ⟨s27,HS27⟩: ∃z,Hid (s26.app [[59]]=z):=⟨_,rfl⟩
     have n27:s27.n≤s26.n+2*1:=by rw [←HS27.out,St.app_n];have:=hl27;omega
     have HW27:Hid (WR G (fun q=>P q∨q=i) b k s27 w27):=by rw [←HS27.out];exact h1
     have HB27:Hid (w27.heap[i]?=some (.cells ((Rs.icells ({{{{h with name:= []} with of_:= []} with to_:= []} with word:=0}:Rs.Item) c d n l).toArray) 49 (0,0))):=hf.blk HB26.out (fun e=>e (.inr rfl))
     have HF27:Hid (Fr (fun q=> ¬P q) w w27):=HF26.out.trans (hf.mono (fun q _ e e2=>e (.inl e2)))
     clear h1 hf
     go_wp2_with fail
     first|go_end0|refine bodyPost_ret (results_none rfl _ _ _) rfl ?_
     exact .inr ⟨ts1++([[98,121]]++([[110,97,116,117,114,101]]++([]++([]++([]++([[59]])))))),(by show act h=some _;unfold act;rw [HT1.out,(show actOf h.of_=ok [natureT] from (if_neg HNA.out).trans (if_pos hc5.out)),(show actWord h=cat ((if h.unit= [] then ok [] else cat (ok [[109,111,118,101,115]]) (amount h.num h.unit))) ((if h.to_= [] then ok [] else cat (ok [[116,111]]) (name h.to_))) from (if_neg (fun e=>e.elim HK2.out HK3.out)).trans (if_pos hc22.out)),if_pos hc23.out,if_pos hc24.out]<;>(first|rfl|simp [cat,ok,natureT,semi])),rfl,⟨(by rw [←St.app_app,HS1.out,←St.app_app,HS2.out,←St.app_app,HS6.out,←St.app_app,HS7.out,←St.app_app,HS25.out,←St.app_app,HS26.out,HS27.out];exact HW27.out),(by unfold actLeft;rw [if_pos HK1.out,if_pos hc23.out];exact HB27.out)⟩,HF27.out⟩
    have hc24:=hdd hq24
    have cb22:w6.cell? ⟨i,22,none⟩=some (.string ⟨h.to_.toArray⟩):=cell_of_blk HB7.out 22
    have qb22:(h.to_== [])=false:=by simpa using hq24
    have qc22:(h.to_ != [])=true:=by simpa using hq24
    have HTO:=hdd hq24
    clear hq24
    go_wp2_with fail
    refine (words_new HW7.out [[116,111]] _ rfl _ _ (by decide) (by show s7.n+2*1≤lim;omega)).mono ?_
    rintro e w28 ⟨rfl,h1,hf⟩
    clear cb5 cb18 cb22 qb22 qc22
    have hl28:([[116,111]]:List Rs.Bytes).length≤1:=by decide
    obtain ⟨s28,HS28⟩: ∃z,Hid (s7.app [[116,111]]=z):=⟨_,rfl⟩
    have n28:s28.n≤s7.n+2*1:=by rw [←HS28.out,St.app_n];have:=hl28;omega
    have HW28:Hid (WR G (fun q=>P q∨q=i) b k s28 w28):=by rw [←HS28.out];exact h1
    have HB28:Hid (w28.heap[i]?=some (.cells ((Rs.icells ({{h with name:= []} with of_:= []}:Rs.Item) c d n l).toArray) 49 (0,0))):=hf.blk HB7.out (fun e=>e (.inr rfl))
    have HF28:Hid (Fr (fun q=> ¬P q) w w28):=HF7.out.trans (hf.mono (fun q _ e e2=>e (.inl e2)))
    clear h1 hf
    go_wp2_with fail
    refine (name_any HW28.out HI.out HG.out (h.to_) HB28.out rfl (by exact HO.out.to_) (by omega)).mono ?_
    rintro e w29 (⟨ht,rfl,hf⟩|⟨ts29,ht,rfl,⟨h1,hb⟩,hf⟩)
    ·have ht:name (h.to_)=none:=(by exact ht)
     exact ⟨rfl,.inl ⟨(by show act h=none;unfold act;rw [HT1.out,(show actOf h.of_=ok [natureT] from (if_neg HNA.out).trans (if_pos hc5.out)),(show actWord h=cat ((if h.unit= [] then ok [] else cat (ok [[109,111,118,101,115]]) (amount h.num h.unit))) ((if h.to_= [] then ok [] else cat (ok [[116,111]]) (name h.to_))) from (if_neg (fun e=>e.elim HK2.out HK3.out)).trans (if_pos hc22.out)),if_pos hc23.out,if_neg hc24.out,ht]<;>rfl),rfl,HF28.out.trans hf⟩⟩
    have ht:name (h.to_)=some ts29:=(by exact ht)
    have hl29:ts29.length≤1:=name_le _ ht
    have HT29:=hdd ht
    obtain ⟨s29,HS29⟩: ∃z,Hid (s28.app ts29=z):=⟨_,rfl⟩
    have n29:s29.n≤s28.n+2*1:=by rw [←HS29.out,St.app_n];have:=hl29;omega
    have HW29:Hid (WR G (fun q=>P q∨q=i) b k s29 w29):=by rw [←HS29.out];exact h1
    have HB29:Hid (w29.heap[i]?=some (.cells ((Rs.icells ({{{h with name:= []} with of_:= []} with to_:= []}:Rs.Item) c d n l).toArray) 49 (0,0))):=hb
    have HF29:Hid (Fr (fun q=> ¬P q) w w29):=HF28.out.trans hf
    clear hb ht
    clear h1 hf
    have c30:w29.cell? ⟨i,5,none⟩=some (.int .i64 h.word):=cell_of_blk HB29.out _
    have f30:w29.frozen? ⟨i,5,none⟩=false:=froz_of_blk HB29.out _
    obtain ⟨w30,hw30⟩: ∃u,w29.setCell ⟨i,5,none⟩ (.int .i64 0)=u:=⟨_,rfl⟩
    have hf:Fr (fun q=>q=i) w29 w30:=by rw [←hw30];exact (Fr.refl (fun q=>q=i) w29).setb 5 _
    have HB30:Hid (w30.heap[i]?=some (.cells ((Rs.icells ({{{{h with name:= []} with of_:= []} with to_:= []} with word:=0}:Rs.Item) c d n l).toArray) 49 (0,0))):=by rw [←hw30];exact blk_set HB29.out 5 _
    have HW30:Hid (WR G (fun q=>P q∨q=i) b k s29 w30):=HW29.out.fr hf (fun q e=>⟨.inr e,by have e:q=i:=e;subst e;exact Nat.le_of_not_lt fun h=>HI.out (HG.out _ h)⟩)
    have HF30:Hid (Fr (fun q=> ¬P q) w w30):=HF29.out.trans (hf.mono (fun q _ e e2=>by have e:q=i:=e;subst e;exact HI.out e2))
    clear hf
    have s30_:True:=trivial
    obtain ⟨s30,HS30⟩: ∃z,Hid (s29.app []=z):=⟨_,rfl⟩
    have n30:s30.n≤s29.n:=by rw [←HS30.out];exact Nat.le_refl _
    have HW30:Hid (WR G (fun q=>P q∨q=i) b k s30 w30):=by rw [←HS30.out];exact HW30.out
    go_wp2_with fail
    refine (words_new HW30.out [[59]] _ rfl _ _ (by decide) (by show s30.n+2*1≤lim;omega)).mono ?_
    rintro e w31 ⟨rfl,h1,hf⟩
    clear c30 f30 hw30 s30_
    have hl31:([[59]]:List Rs.Bytes).length≤1:=by decide
    obtain ⟨s31,HS31⟩: ∃z,Hid (s30.app [[59]]=z):=⟨_,rfl⟩
    have n31:s31.n≤s30.n+2*1:=by rw [←HS31.out,St.app_n];have:=hl31;omega
    have HW31:Hid (WR G (fun q=>P q∨q=i) b k s31 w31):=by rw [←HS31.out];exact h1
    have HB31:Hid (w31.heap[i]?=some (.cells ((Rs.icells ({{{{h with name:= []} with of_:= []} with to_:= []} with word:=0}:Rs.Item) c d n l).toArray) 49 (0,0))):=hf.blk HB30.out (fun e=>e (.inr rfl))
    have HF31:Hid (Fr (fun q=> ¬P q) w w31):=HF30.out.trans (hf.mono (fun q _ e e2=>e (.inl e2)))
    clear h1 hf
    go_wp2_with fail
    first|go_end0|refine bodyPost_ret (results_none rfl _ _ _) rfl ?_
    exact .inr ⟨ts1++([[98,121]]++([[110,97,116,117,114,101]]++([]++([[116,111]]++(ts29++([]++([[59]]))))))),(by show act h=some _;unfold act;rw [HT1.out,(show actOf h.of_=ok [natureT] from (if_neg HNA.out).trans (if_pos hc5.out)),(show actWord h=cat ((if h.unit= [] then ok [] else cat (ok [[109,111,118,101,115]]) (amount h.num h.unit))) ((if h.to_= [] then ok [] else cat (ok [[116,111]]) (name h.to_))) from (if_neg (fun e=>e.elim HK2.out HK3.out)).trans (if_pos hc22.out)),if_pos hc23.out,if_neg hc24.out,HT29.out]<;>(first|rfl|simp [cat,ok,natureT,semi])),rfl,⟨(by rw [←St.app_app,HS1.out,←St.app_app,HS2.out,←St.app_app,HS6.out,←St.app_app,HS7.out,←St.app_app,HS28.out,←St.app_app,HS29.out,←St.app_app,HS30.out,HS31.out];exact HW31.out),(by unfold actLeft;rw [if_pos HK1.out,if_pos hc23.out];exact HB31.out)⟩,HF31.out⟩
   have hc23:=hdd hq23
   have cb18:w6.cell? ⟨i,18,none⟩=some (.string ⟨h.unit.toArray⟩):=cell_of_blk HB7.out 18
   have qb18:(h.unit== [])=false:=by simpa using hq23
   have qc18:(h.unit != [])=true:=by simpa using hq23
   have HUN:=hdd hq23
   clear hq23
   go_wp2_with fail
   refine (words_new HW7.out [[109,111,118,101,115]] _ rfl _ _ (by decide) (by show s7.n+2*1≤lim;omega)).mono ?_
   rintro e w32 ⟨rfl,h1,hf⟩
   clear cb5 cb18 qb18 qc18
   have hl32:([[109,111,118,101,115]]:List Rs.Bytes).length≤1:=by decide
   obtain ⟨s32,HS32⟩: ∃z,Hid (s7.app [[109,111,118,101,115]]=z):=⟨_,rfl⟩
   have n32:s32.n≤s7.n+2*1:=by rw [←HS32.out,St.app_n];have:=hl32;omega
   have HW32:Hid (WR G (fun q=>P q∨q=i) b k s32 w32):=by rw [←HS32.out];exact h1
   have HB32:Hid (w32.heap[i]?=some (.cells ((Rs.icells ({{h with name:= []} with of_:= []}:Rs.Item) c d n l).toArray) 49 (0,0))):=hf.blk HB7.out (fun e=>e (.inr rfl))
   have HF32:Hid (Fr (fun q=> ¬P q) w w32):=HF7.out.trans (hf.mono (fun q _ e e2=>e (.inl e2)))
   clear h1 hf
   go_wp2_with fail
   refine (amount_any HW32.out HI.out HG.out HB32.out (by constructor<;>first|exact HO.out.name|exact HO.out.of_|exact HO.out.act|exact HO.out.by_|exact HO.out.til|exact HO.out.unit|exact HO.out.sum|exact HO.out.give|exact HO.out.to_|exact HO.out.wn|exact HO.out.gn|exact left_len HO.out.wn|exact left_len HO.out.gn|exact HO.out.conds|exact HO.out.names|exact Nat.zero_le _) (by omega)).mono ?_
   rintro e w33 (⟨ht,rfl,hf⟩|⟨ts33,ht,rfl,⟨h1,hb⟩,hf⟩)
   ·have ht:amount h.num h.unit=none:=(by exact ht)
    exact ⟨rfl,.inl ⟨(by show act h=none;unfold act;rw [HT1.out,(show actOf h.of_=ok [natureT] from (if_neg HNA.out).trans (if_pos hc5.out)),(show actWord h=cat ((if h.unit= [] then ok [] else cat (ok [[109,111,118,101,115]]) (amount h.num h.unit))) ((if h.to_= [] then ok [] else cat (ok [[116,111]]) (name h.to_))) from (if_neg (fun e=>e.elim HK2.out HK3.out)).trans (if_pos hc22.out)),if_neg hc23.out,ht]<;>rfl),rfl,HF32.out.trans hf⟩⟩
   have ht:amount h.num h.unit=some ts33:=(by exact ht)
   have hl33:ts33.length≤4:=amount_le _ ht
   have HT33:=hdd ht
   obtain ⟨s33,HS33⟩: ∃z,Hid (s32.app ts33=z):=⟨_,rfl⟩
   have n33:s33.n≤s32.n+2*4:=by rw [←HS33.out,St.app_n];have:=hl33;omega
   have HW33:Hid (WR G (fun q=>P q∨q=i) b k s33 w33):=by rw [←HS33.out];exact h1
   have HB33:Hid (w33.heap[i]?=some (.cells ((Rs.icells (amountLeft ({{h with name:= []} with of_:= []}):Rs.Item) c d n l).toArray) 49 (0,0))):=hb
   have HF33:Hid (Fr (fun q=> ¬P q) w w33):=HF32.out.trans hf
   clear hb ht
   clear h1 hf
   by_cases hq34:h.to_= []
   ·have hc34:=hdd hq34
    have cb22:w33.cell? ⟨i,22,none⟩=some (.string ⟨#[]⟩):=(cell_of_blk HB33.out 22).trans (by show some (sv h.to_)=_;rw [hq34])
    have HTO:=hdd hq34
    clear hq34
    have HB35:Hid (w33.heap[i]?=some (.cells ((Rs.icells ({amountLeft ({{h with name:= []} with of_:= []}) with to_:= []}:Rs.Item) c d n l).toArray) 49 (0,0))):=by
     have hb:=HB33.out
     rw [HTO.out] at hb
     exact hb
    have HW35:=HW33;have HF35:=HF33
    obtain ⟨s35,HS35⟩: ∃z,Hid (s33.app []=z):=⟨_,rfl⟩
    have n35:s35.n≤s33.n:=by rw [←HS35.out];exact Nat.le_refl _
    have HW35:Hid (WR G (fun q=>P q∨q=i) b k s35 w33):=by rw [←HS35.out];exact HW35.out
    have c36:w33.cell? ⟨i,5,none⟩=some (.int .i64 h.word):=cell_of_blk HB35.out _
    have f36:w33.frozen? ⟨i,5,none⟩=false:=froz_of_blk HB35.out _
    obtain ⟨w36,hw36⟩: ∃u,w33.setCell ⟨i,5,none⟩ (.int .i64 0)=u:=⟨_,rfl⟩
    have hf:Fr (fun q=>q=i) w33 w36:=by rw [←hw36];exact (Fr.refl (fun q=>q=i) w33).setb 5 _
    have HB36:Hid (w36.heap[i]?=some (.cells ((Rs.icells ({{amountLeft ({{h with name:= []} with of_:= []}) with to_:= []} with word:=0}:Rs.Item) c d n l).toArray) 49 (0,0))):=by rw [←hw36];exact blk_set HB35.out 5 _
    have HW36:Hid (WR G (fun q=>P q∨q=i) b k s35 w36):=HW35.out.fr hf (fun q e=>⟨.inr e,by have e:q=i:=e;subst e;exact Nat.le_of_not_lt fun h=>HI.out (HG.out _ h)⟩)
    have HF36:Hid (Fr (fun q=> ¬P q) w w36):=HF35.out.trans (hf.mono (fun q _ e e2=>by have e:q=i:=e;subst e;exact HI.out e2))
    clear hf
    have s36_:True:=trivial
    obtain ⟨s36,HS36⟩: ∃z,Hid (s35.app []=z):=⟨_,rfl⟩
    have n36:s36.n≤s35.n:=by rw [←HS36.out];exact Nat.le_refl _
    have HW36:Hid (WR G (fun q=>P q∨q=i) b k s36 w36):=by rw [←HS36.out];exact HW36.out
    go_wp2_with fail
    refine (words_new HW36.out [[59]] _ rfl _ _ (by decide) (by show s36.n+2*1≤lim;omega)).mono ?_
    rintro e w37 ⟨rfl,h1,hf⟩
    clear cb22 c36 f36 hw36 s36_
    have hl37:([[59]]:List Rs.Bytes).length≤1:=by decide
    obtain ⟨s37,HS37⟩: ∃z,Hid (s36.app [[59]]=z):=⟨_,rfl⟩
    have n37:s37.n≤s36.n+2*1:=by rw [←HS37.out,St.app_n];have:=hl37;omega
    have HW37:Hid (WR G (fun q=>P q∨q=i) b k s37 w37):=by rw [←HS37.out];exact h1
    have HB37:Hid (w37.heap[i]?=some (.cells ((Rs.icells ({{amountLeft ({{h with name:= []} with of_:= []}) with to_:= []} with word:=0}:Rs.Item) c d n l).toArray) 49 (0,0))):=hf.blk HB36.out (fun e=>e (.inr rfl))
    have HF37:Hid (Fr (fun q=> ¬P q) w w37):=HF36.out.trans (hf.mono (fun q _ e e2=>e (.inl e2)))
    clear h1 hf
    go_wp2_with fail
    first|go_end0|refine bodyPost_ret (results_none rfl _ _ _) rfl ?_
    exact .inr ⟨ts1++([[98,121]]++([[110,97,116,117,114,101]]++([]++([[109,111,118,101,115]]++(ts33++([]++([]++([[59]])))))))),(by show act h=some _;unfold act;rw [HT1.out,(show actOf h.of_=ok [natureT] from (if_neg HNA.out).trans (if_pos hc5.out)),(show actWord h=cat ((if h.unit= [] then ok [] else cat (ok [[109,111,118,101,115]]) (amount h.num h.unit))) ((if h.to_= [] then ok [] else cat (ok [[116,111]]) (name h.to_))) from (if_neg (fun e=>e.elim HK2.out HK3.out)).trans (if_pos hc22.out)),if_neg hc23.out,HT33.out,if_pos hc34.out]<;>(first|rfl|simp [cat,ok,natureT,semi])),rfl,⟨(by rw [←St.app_app,HS1.out,←St.app_app,HS2.out,←St.app_app,HS6.out,←St.app_app,HS7.out,←St.app_app,HS32.out,←St.app_app,HS33.out,←St.app_app,HS35.out,←St.app_app,HS36.out,HS37.out];exact HW37.out),(by unfold actLeft;rw [if_pos HK1.out,if_neg hc23.out];exact HB37.out)⟩,HF37.out⟩
   have hc34:=hdd hq34
   have cb22:w33.cell? ⟨i,22,none⟩=some (.string ⟨h.to_.toArray⟩):=cell_of_blk HB33.out 22
   have qb22:(h.to_== [])=false:=by simpa using hq34
   have qc22:(h.to_ != [])=true:=by simpa using hq34
   have HTO:=hdd hq34
   clear hq34
   go_wp2_with fail
   refine (words_new HW33.out [[116,111]] _ rfl _ _ (by decide) (by show s33.n+2*1≤lim;omega)).mono ?_
   rintro e w38 ⟨rfl,h1,hf⟩
   clear cb22 qb22 qc22
   have hl38:([[116,111]]:List Rs.Bytes).length≤1:=by decide
   obtain ⟨s38,HS38⟩: ∃z,Hid (s33.app [[116,111]]=z):=⟨_,rfl⟩
   have n38:s38.n≤s33.n+2*1:=by rw [←HS38.out,St.app_n];have:=hl38;omega
   have HW38:Hid (WR G (fun q=>P q∨q=i) b k s38 w38):=by rw [←HS38.out];exact h1
   have HB38:Hid (w38.heap[i]?=some (.cells ((Rs.icells (amountLeft ({{h with name:= []} with of_:= []}):Rs.Item) c d n l).toArray) 49 (0,0))):=hf.blk HB33.out (fun e=>e (.inr rfl))
   have HF38:Hid (Fr (fun q=> ¬P q) w w38):=HF33.out.trans (hf.mono (fun q _ e e2=>e (.inl e2)))
   clear h1 hf
   go_wp2_with fail
   refine (name_any HW38.out HI.out HG.out (h.to_) HB38.out rfl (by exact HO.out.to_) (by omega)).mono ?_
   rintro e w39 (⟨ht,rfl,hf⟩|⟨ts39,ht,rfl,⟨h1,hb⟩,hf⟩)
   ·have ht:name (h.to_)=none:=(by exact ht)
    exact ⟨rfl,.inl ⟨(by show act h=none;unfold act;rw [HT1.out,(show actOf h.of_=ok [natureT] from (if_neg HNA.out).trans (if_pos hc5.out)),(show actWord h=cat ((if h.unit= [] then ok [] else cat (ok [[109,111,118,101,115]]) (amount h.num h.unit))) ((if h.to_= [] then ok [] else cat (ok [[116,111]]) (name h.to_))) from (if_neg (fun e=>e.elim HK2.out HK3.out)).trans (if_pos hc22.out)),if_neg hc23.out,HT33.out,if_neg hc34.out,ht]<;>rfl),rfl,HF38.out.trans hf⟩⟩
   have ht:name (h.to_)=some ts39:=(by exact ht)
   have hl39:ts39.length≤1:=name_le _ ht
   have HT39:=hdd ht
   obtain ⟨s39,HS39⟩: ∃z,Hid (s38.app ts39=z):=⟨_,rfl⟩
   have n39:s39.n≤s38.n+2*1:=by rw [←HS39.out,St.app_n];have:=hl39;omega
   have HW39:Hid (WR G (fun q=>P q∨q=i) b k s39 w39):=by rw [←HS39.out];exact h1
   have HB39:Hid (w39.heap[i]?=some (.cells ((Rs.icells ({amountLeft ({{h with name:= []} with of_:= []}) with to_:= []}:Rs.Item) c d n l).toArray) 49 (0,0))):=hb
   have HF39:Hid (Fr (fun q=> ¬P q) w w39):=HF38.out.trans hf
   clear hb ht
   clear h1 hf
   have c40:w39.cell? ⟨i,5,none⟩=some (.int .i64 h.word):=cell_of_blk HB39.out _
   have f40:w39.frozen? ⟨i,5,none⟩=false:=froz_of_blk HB39.out _
   obtain ⟨w40,hw40⟩: ∃u,w39.setCell ⟨i,5,none⟩ (.int .i64 0)=u:=⟨_,rfl⟩
   have hf:Fr (fun q=>q=i) w39 w40:=by rw [←hw40];exact (Fr.refl (fun q=>q=i) w39).setb 5 _
   have HB40:Hid (w40.heap[i]?=some (.cells ((Rs.icells ({{amountLeft ({{h with name:= []} with of_:= []}) with to_:= []} with word:=0}:Rs.Item) c d n l).toArray) 49 (0,0))):=by rw [←hw40];exact blk_set HB39.out 5 _
   have HW40:Hid (WR G (fun q=>P q∨q=i) b k s39 w40):=HW39.out.fr hf (fun q e=>⟨.inr e,by have e:q=i:=e;subst e;exact Nat.le_of_not_lt fun h=>HI.out (HG.out _ h)⟩)
   have HF40:Hid (Fr (fun q=> ¬P q) w w40):=HF39.out.trans (hf.mono (fun q _ e e2=>by have e:q=i:=e;subst e;exact HI.out e2))
   clear hf
   have s40_:True:=trivial
   obtain ⟨s40,HS40⟩: ∃z,Hid (s39.app []=z):=⟨_,rfl⟩
   have n40:s40.n≤s39.n:=by rw [←HS40.out];exact Nat.le_refl _
   have HW40:Hid (WR G (fun q=>P q∨q=i) b k s40 w40):=by rw [←HS40.out];exact HW40.out
   go_wp2_with fail
   refine (words_new HW40.out [[59]] _ rfl _ _ (by decide) (by show s40.n+2*1≤lim;omega)).mono ?_
   rintro e w41 ⟨rfl,h1,hf⟩
   clear c40 f40 hw40 s40_
   have hl41:([[59]]:List Rs.Bytes).length≤1:=by decide
   obtain ⟨s41,HS41⟩: ∃z,Hid (s40.app [[59]]=z):=⟨_,rfl⟩
   have n41:s41.n≤s40.n+2*1:=by rw [←HS41.out,St.app_n];have:=hl41;omega
   have HW41:Hid (WR G (fun q=>P q∨q=i) b k s41 w41):=by rw [←HS41.out];exact h1
   have HB41:Hid (w41.heap[i]?=some (.cells ((Rs.icells ({{amountLeft ({{h with name:= []} with of_:= []}) with to_:= []} with word:=0}:Rs.Item) c d n l).toArray) 49 (0,0))):=hf.blk HB40.out (fun e=>e (.inr rfl))
   have HF41:Hid (Fr (fun q=> ¬P q) w w41):=HF40.out.trans (hf.mono (fun q _ e e2=>e (.inl e2)))
   clear h1 hf
   go_wp2_with fail
   first|go_end0|refine bodyPost_ret (results_none rfl _ _ _) rfl ?_
   exact .inr ⟨ts1++([[98,121]]++([[110,97,116,117,114,101]]++([]++([[109,111,118,101,115]]++(ts33++([[116,111]]++(ts39++([]++([[59]]))))))))),(by show act h=some _;unfold act;rw [HT1.out,(show actOf h.of_=ok [natureT] from (if_neg HNA.out).trans (if_pos hc5.out)),(show actWord h=cat ((if h.unit= [] then ok [] else cat (ok [[109,111,118,101,115]]) (amount h.num h.unit))) ((if h.to_= [] then ok [] else cat (ok [[116,111]]) (name h.to_))) from (if_neg (fun e=>e.elim HK2.out HK3.out)).trans (if_pos hc22.out)),if_neg hc23.out,HT33.out,if_neg hc34.out,HT39.out]<;>(first|rfl|simp [cat,ok,natureT,semi])),rfl,⟨(by rw [←St.app_app,HS1.out,←St.app_app,HS2.out,←St.app_app,HS6.out,←St.app_app,HS7.out,←St.app_app,HS32.out,←St.app_app,HS33.out,←St.app_app,HS38.out,←St.app_app,HS39.out,←St.app_app,HS40.out,HS41.out];exact HW41.out),(by unfold actLeft;rw [if_pos HK1.out,if_neg hc23.out];exact HB41.out)⟩,HF41.out⟩
  have hc22:=hdd hq22
  have cb5:w6.cell? ⟨i,5,none⟩=some (.int .i64 h.word):=cell_of_blk HB7.out 5
  have qa1:(h.word==1)=false:=beq_eq_false_iff_ne.2 hq22
  have qa2:(h.word==2)=false:=beq_eq_false_iff_ne.2 HK2.out
  have qa3:(h.word==3)=false:=beq_eq_false_iff_ne.2 HK3.out
  clear hq22
  go_wp2_with fail
  exact ⟨rfl,.inl ⟨(by show act h=none;unfold act;rw [HT1.out,(show actOf h.of_=ok [natureT] from (if_neg HNA.out).trans (if_pos hc5.out)),(show actWord h=none from (if_neg (fun e=>e.elim HK2.out HK3.out)).trans (if_neg hc22.out))]<;>rfl),rfl,HF7.out⟩⟩
 have hc5:=hdd hq5
 have cb3:w2.cell? ⟨i,3,none⟩=some (.string ⟨h.of_.toArray⟩):=cell_of_blk HB2.out 3
 have qb3:(h.of_== [])=false:=by simpa using hq5
 clear hq5
 go_wp2_with fail
 refine (name_any HW2.out HI.out HG.out (h.of_) HB2.out rfl (by exact HO.out.of_) (by omega)).mono ?_
 rintro e w43 (⟨ht,rfl,hf⟩|⟨ts43,ht,rfl,⟨h1,hb⟩,hf⟩)
 ·have ht:name (h.of_)=none:=(by exact ht)
  exact ⟨rfl,.inl ⟨(by show act h=none;unfold act;rw [HT1.out,(show actOf h.of_=name h.of_ from (if_neg HNA.out).trans (if_neg hc5.out)),ht]<;>rfl),rfl,HF2.out.trans hf⟩⟩
 have ht:name (h.of_)=some ts43:=(by exact ht)
 clear qn3 cb3 qb3
 have hl43:ts43.length≤1:=name_le _ ht
 have HT43:=hdd ht
 obtain ⟨s43,HS43⟩: ∃z,Hid (s2.app ts43=z):=⟨_,rfl⟩
 have n43:s43.n≤s2.n+2*1:=by rw [←HS43.out,St.app_n];have:=hl43;omega
 have HW43:Hid (WR G (fun q=>P q∨q=i) b k s43 w43):=by rw [←HS43.out];exact h1
 have HB43:Hid (w43.heap[i]?=some (.cells ((Rs.icells ({{h with name:= []} with of_:= []}:Rs.Item) c d n l).toArray) 49 (0,0))):=hb
 have HF43:Hid (Fr (fun q=> ¬P q) w w43):=HF2.out.trans hf
 clear hb ht
 clear h1 hf
 by_cases hq44:h.word=2
 ·have hc44:=hdd hq44
  have cb5:w43.cell? ⟨i,5,none⟩=some (.int .i64 2):=(cell_of_blk HB43.out 5).trans (by show some (Value.int .i64 h.word)=_;rw [hq44])
  have HK2:=hdd hq44
  clear hq44
  go_wp2_with fail
  refine (words_new HW43.out [[97,115,115,105,103,110,115]] _ rfl _ _ (by decide) (by show s43.n+2*1≤lim;omega)).mono ?_
  rintro e w45 ⟨rfl,h1,hf⟩
  clear cb5
  have hl45:([[97,115,115,105,103,110,115]]:List Rs.Bytes).length≤1:=by decide
  obtain ⟨s45,HS45⟩: ∃z,Hid (s43.app [[97,115,115,105,103,110,115]]=z):=⟨_,rfl⟩
  have n45:s45.n≤s43.n+2*1:=by rw [←HS45.out,St.app_n];have:=hl45;omega
  have HW45:Hid (WR G (fun q=>P q∨q=i) b k s45 w45):=by rw [←HS45.out];exact h1
  have HB45:Hid (w45.heap[i]?=some (.cells ((Rs.icells ({{h with name:= []} with of_:= []}:Rs.Item) c d n l).toArray) 49 (0,0))):=hf.blk HB43.out (fun e=>e (.inr rfl))
  have HF45:Hid (Fr (fun q=> ¬P q) w w45):=HF43.out.trans (hf.mono (fun q _ e e2=>e (.inl e2)))
  clear h1 hf
  go_wp2_with fail
  refine (name_any HW45.out HI.out HG.out (h.give) HB45.out rfl (by exact HO.out.give) (by omega)).mono ?_
  rintro e w46 (⟨ht,rfl,hf⟩|⟨ts46,ht,rfl,⟨h1,hb⟩,hf⟩)
  ·have ht:name (h.give)=none:=(by exact ht)
   exact ⟨rfl,.inl ⟨(by show act h=none;unfold act;rw [HT1.out,(show actOf h.of_=name h.of_ from (if_neg HNA.out).trans (if_neg hc5.out)),HT43.out,(show actWord h=cat (ok [[97,115,115,105,103,110,115]]) (cat (name h.give) (cat (ok [[116,111]]) (name h.to_))) from (if_pos (.inl hc44.out)).trans (by rw [if_pos hc44.out])),ht]<;>rfl),rfl,HF45.out.trans hf⟩⟩
  have ht:name (h.give)=some ts46:=(by exact ht)
  have hl46:ts46.length≤1:=name_le _ ht
  have HT46:=hdd ht
  obtain ⟨s46,HS46⟩: ∃z,Hid (s45.app ts46=z):=⟨_,rfl⟩
  have n46:s46.n≤s45.n+2*1:=by rw [←HS46.out,St.app_n];have:=hl46;omega
  have HW46:Hid (WR G (fun q=>P q∨q=i) b k s46 w46):=by rw [←HS46.out];exact h1
  have HB46:Hid (w46.heap[i]?=some (.cells ((Rs.icells ({{{h with name:= []} with of_:= []} with give:= []}:Rs.Item) c d n l).toArray) 49 (0,0))):=hb
  have HF46:Hid (Fr (fun q=> ¬P q) w w46):=HF45.out.trans hf
  clear hb ht
  clear h1 hf
  go_wp2_with fail
  refine (words_new HW46.out [[116,111]] _ rfl _ _ (by decide) (by show s46.n+2*1≤lim;omega)).mono ?_
  rintro e w47 ⟨rfl,h1,hf⟩
  have hl47:([[116,111]]:List Rs.Bytes).length≤1:=by decide
  obtain ⟨s47,HS47⟩: ∃z,Hid (s46.app [[116,111]]=z):=⟨_,rfl⟩
  have n47:s47.n≤s46.n+2*1:=by rw [←HS47.out,St.app_n];have:=hl47;omega
  have HW47:Hid (WR G (fun q=>P q∨q=i) b k s47 w47):=by rw [←HS47.out];exact h1
  have HB47:Hid (w47.heap[i]?=some (.cells ((Rs.icells ({{{h with name:= []} with of_:= []} with give:= []}:Rs.Item) c d n l).toArray) 49 (0,0))):=hf.blk HB46.out (fun e=>e (.inr rfl))
  have HF47:Hid (Fr (fun q=> ¬P q) w w47):=HF46.out.trans (hf.mono (fun q _ e e2=>e (.inl e2)))
  clear h1 hf
  go_wp2_with fail
  refine (name_any HW47.out HI.out HG.out (h.to_) HB47.out rfl (by exact HO.out.to_) (by omega)).mono ?_
  rintro e w48 (⟨ht,rfl,hf⟩|⟨ts48,ht,rfl,⟨h1,hb⟩,hf⟩)
  ·have ht:name (h.to_)=none:=(by exact ht)
   exact ⟨rfl,.inl ⟨(by show act h=none;unfold act;rw [HT1.out,(show actOf h.of_=name h.of_ from (if_neg HNA.out).trans (if_neg hc5.out)),HT43.out,(show actWord h=cat (ok [[97,115,115,105,103,110,115]]) (cat (name h.give) (cat (ok [[116,111]]) (name h.to_))) from (if_pos (.inl hc44.out)).trans (by rw [if_pos hc44.out])),HT46.out,ht]<;>rfl),rfl,HF47.out.trans hf⟩⟩
  have ht:name (h.to_)=some ts48:=(by exact ht)
  have hl48:ts48.length≤1:=name_le _ ht
  have HT48:=hdd ht
  obtain ⟨s48,HS48⟩: ∃z,Hid (s47.app ts48=z):=⟨_,rfl⟩
  have n48:s48.n≤s47.n+2*1:=by rw [←HS48.out,St.app_n];have:=hl48;omega
  have HW48:Hid (WR G (fun q=>P q∨q=i) b k s48 w48):=by rw [←HS48.out];exact h1
  have HB48:Hid (w48.heap[i]?=some (.cells ((Rs.icells ({{{{h with name:= []} with of_:= []} with give:= []} with to_:= []}:Rs.Item) c d n l).toArray) 49 (0,0))):=hb
  have HF48:Hid (Fr (fun q=> ¬P q) w w48):=HF47.out.trans hf
  clear hb ht
  clear h1 hf
  have c49:w48.cell? ⟨i,5,none⟩=some (.int .i64 h.word):=cell_of_blk HB48.out _
  have f49:w48.frozen? ⟨i,5,none⟩=false:=froz_of_blk HB48.out _
  obtain ⟨w49,hw49⟩: ∃u,w48.setCell ⟨i,5,none⟩ (.int .i64 0)=u:=⟨_,rfl⟩
  have hf:Fr (fun q=>q=i) w48 w49:=by rw [←hw49];exact (Fr.refl (fun q=>q=i) w48).setb 5 _
  have HB49:Hid (w49.heap[i]?=some (.cells ((Rs.icells ({{{{{h with name:= []} with of_:= []} with give:= []} with to_:= []} with word:=0}:Rs.Item) c d n l).toArray) 49 (0,0))):=by rw [←hw49];exact blk_set HB48.out 5 _
  have HW49:Hid (WR G (fun q=>P q∨q=i) b k s48 w49):=HW48.out.fr hf (fun q e=>⟨.inr e,by have e:q=i:=e;subst e;exact Nat.le_of_not_lt fun h=>HI.out (HG.out _ h)⟩)
  have HF49:Hid (Fr (fun q=> ¬P q) w w49):=HF48.out.trans (hf.mono (fun q _ e e2=>by have e:q=i:=e;subst e;exact HI.out e2))
  clear hf
  have s49_:True:=trivial
  obtain ⟨s49,HS49⟩: ∃z,Hid (s48.app []=z):=⟨_,rfl⟩
  have n49:s49.n≤s48.n:=by rw [←HS49.out];exact Nat.le_refl _
  have HW49:Hid (WR G (fun q=>P q∨q=i) b k s49 w49):=by rw [←HS49.out];exact HW49.out
  go_wp2_with fail
  refine (words_new HW49.out [[59]] _ rfl _ _ (by decide) (by show s49.n+2*1≤lim;omega)).mono ?_
  rintro e w50 ⟨rfl,h1,hf⟩
  clear c49 f49 hw49 s49_
  have hl50:([[59]]:List Rs.Bytes).length≤1:=by decide
  obtain ⟨s50,HS50⟩: ∃z,Hid (s49.app [[59]]=z):=⟨_,rfl⟩
  have n50:s50.n≤s49.n+2*1:=by rw [←HS50.out,St.app_n];have:=hl50;omega
  have HW50:Hid (WR G (fun q=>P q∨q=i) b k s50 w50):=by rw [←HS50.out];exact h1
  have HB50:Hid (w50.heap[i]?=some (.cells ((Rs.icells ({{{{{h with name:= []} with of_:= []} with give:= []} with to_:= []} with word:=0}:Rs.Item) c d n l).toArray) 49 (0,0))):=hf.blk HB49.out (fun e=>e (.inr rfl))
  have HF50:Hid (Fr (fun q=> ¬P q) w w50):=HF49.out.trans (hf.mono (fun q _ e e2=>e (.inl e2)))
  clear h1 hf
  go_wp2_with fail
  first|go_end0|refine bodyPost_ret (results_none rfl _ _ _) rfl ?_
  exact .inr ⟨ts1++([[98,121]]++(ts43++([[97,115,115,105,103,110,115]]++(ts46++([[116,111]]++(ts48++([]++([[59]])))))))),(by show act h=some _;unfold act;rw [HT1.out,(show actOf h.of_=name h.of_ from (if_neg HNA.out).trans (if_neg hc5.out)),HT43.out,(show actWord h=cat (ok [[97,115,115,105,103,110,115]]) (cat (name h.give) (cat (ok [[116,111]]) (name h.to_))) from (if_pos (.inl hc44.out)).trans (by rw [if_pos hc44.out])),HT46.out,HT48.out]<;>(first|rfl|simp [cat,ok,natureT,semi])),rfl,⟨(by rw [←St.app_app,HS1.out,←St.app_app,HS2.out,←St.app_app,HS43.out,←St.app_app,HS45.out,←St.app_app,HS46.out,←St.app_app,HS47.out,←St.app_app,HS48.out,←St.app_app,HS49.out,HS50.out];exact HW50.out),(by unfold actLeft;rw [if_neg (by rw [hc44.out];decide)];exact HB50.out)⟩,HF50.out⟩
 have hc44:=hdd hq44
 have HK2:=hdd hq44
 clear hq44
 by_cases hq51:h.word=3
 ·have hc51:=hdd hq51
  have cb5:w43.cell? ⟨i,5,none⟩=some (.int .i64 3):=(cell_of_blk HB43.out 5).trans (by show some (Value.int .i64 h.word)=_;rw [hq51])
  have HK3:=hdd hq51
  clear hq51
  go_wp2_with fail
  refine (words_new HW43.out [[110,111,118,97,116,101,115]] _ rfl _ _ (by decide) (by show s43.n+2*1≤lim;omega)).mono ?_
  rintro e w52 ⟨rfl,h1,hf⟩
  clear cb5
  have hl52:([[110,111,118,97,116,101,115]]:List Rs.Bytes).length≤1:=by decide
  obtain ⟨s52,HS52⟩: ∃z,Hid (s43.app [[110,111,118,97,116,101,115]]=z):=⟨_,rfl⟩
  have n52:s52.n≤s43.n+2*1:=by rw [←HS52.out,St.app_n];have:=hl52;omega
  have HW52:Hid (WR G (fun q=>P q∨q=i) b k s52 w52):=by rw [←HS52.out];exact h1
  have HB52:Hid (w52.heap[i]?=some (.cells ((Rs.icells ({{h with name:= []} with of_:= []}:Rs.Item) c d n l).toArray) 49 (0,0))):=hf.blk HB43.out (fun e=>e (.inr rfl))
  have HF52:Hid (Fr (fun q=> ¬P q) w w52):=HF43.out.trans (hf.mono (fun q _ e e2=>e (.inl e2)))
  clear h1 hf
  go_wp2_with fail
  refine (name_any HW52.out HI.out HG.out (h.give) HB52.out rfl (by exact HO.out.give) (by omega)).mono ?_
  rintro e w53 (⟨ht,rfl,hf⟩|⟨ts53,ht,rfl,⟨h1,hb⟩,hf⟩)
  ·have ht:name (h.give)=none:=(by exact ht)
   exact ⟨rfl,.inl ⟨(by show act h=none;unfold act;rw [HT1.out,(show actOf h.of_=name h.of_ from (if_neg HNA.out).trans (if_neg hc5.out)),HT43.out,(show actWord h=cat (ok [[110,111,118,97,116,101,115]]) (cat (name h.give) (cat (ok [[116,111]]) (name h.to_))) from (if_pos (.inr hc51.out)).trans (by rw [if_neg HK2.out])),ht]<;>rfl),rfl,HF52.out.trans hf⟩⟩
  have ht:name (h.give)=some ts53:=(by exact ht)
  have hl53:ts53.length≤1:=name_le _ ht
  have HT53:=hdd ht
  obtain ⟨s53,HS53⟩: ∃z,Hid (s52.app ts53=z):=⟨_,rfl⟩
  have n53:s53.n≤s52.n+2*1:=by rw [←HS53.out,St.app_n];have:=hl53;omega
  have HW53:Hid (WR G (fun q=>P q∨q=i) b k s53 w53):=by rw [←HS53.out];exact h1
  have HB53:Hid (w53.heap[i]?=some (.cells ((Rs.icells ({{{h with name:= []} with of_:= []} with give:= []}:Rs.Item) c d n l).toArray) 49 (0,0))):=hb
  have HF53:Hid (Fr (fun q=> ¬P q) w w53):=HF52.out.trans hf
  clear hb ht
  clear h1 hf
  go_wp2_with fail
  refine (words_new HW53.out [[116,111]] _ rfl _ _ (by decide) (by show s53.n+2*1≤lim;omega)).mono ?_
  rintro e w54 ⟨rfl,h1,hf⟩
  have hl54:([[116,111]]:List Rs.Bytes).length≤1:=by decide
  obtain ⟨s54,HS54⟩: ∃z,Hid (s53.app [[116,111]]=z):=⟨_,rfl⟩
  have n54:s54.n≤s53.n+2*1:=by rw [←HS54.out,St.app_n];have:=hl54;omega
  have HW54:Hid (WR G (fun q=>P q∨q=i) b k s54 w54):=by rw [←HS54.out];exact h1
  have HB54:Hid (w54.heap[i]?=some (.cells ((Rs.icells ({{{h with name:= []} with of_:= []} with give:= []}:Rs.Item) c d n l).toArray) 49 (0,0))):=hf.blk HB53.out (fun e=>e (.inr rfl))
  have HF54:Hid (Fr (fun q=> ¬P q) w w54):=HF53.out.trans (hf.mono (fun q _ e e2=>e (.inl e2)))
  clear h1 hf
  go_wp2_with fail
  refine (name_any HW54.out HI.out HG.out (h.to_) HB54.out rfl (by exact HO.out.to_) (by omega)).mono ?_
  rintro e w55 (⟨ht,rfl,hf⟩|⟨ts55,ht,rfl,⟨h1,hb⟩,hf⟩)
  ·have ht:name (h.to_)=none:=(by exact ht)
   exact ⟨rfl,.inl ⟨(by show act h=none;unfold act;rw [HT1.out,(show actOf h.of_=name h.of_ from (if_neg HNA.out).trans (if_neg hc5.out)),HT43.out,(show actWord h=cat (ok [[110,111,118,97,116,101,115]]) (cat (name h.give) (cat (ok [[116,111]]) (name h.to_))) from (if_pos (.inr hc51.out)).trans (by rw [if_neg HK2.out])),HT53.out,ht]<;>rfl),rfl,HF54.out.trans hf⟩⟩
  have ht:name (h.to_)=some ts55:=(by exact ht)
  have hl55:ts55.length≤1:=name_le _ ht
  have HT55:=hdd ht
  obtain ⟨s55,HS55⟩: ∃z,Hid (s54.app ts55=z):=⟨_,rfl⟩
  have n55:s55.n≤s54.n+2*1:=by rw [←HS55.out,St.app_n];have:=hl55;omega
  have HW55:Hid (WR G (fun q=>P q∨q=i) b k s55 w55):=by rw [←HS55.out];exact h1
  have HB55:Hid (w55.heap[i]?=some (.cells ((Rs.icells ({{{{h with name:= []} with of_:= []} with give:= []} with to_:= []}:Rs.Item) c d n l).toArray) 49 (0,0))):=hb
  have HF55:Hid (Fr (fun q=> ¬P q) w w55):=HF54.out.trans hf
  clear hb ht
  clear h1 hf
  have c56:w55.cell? ⟨i,5,none⟩=some (.int .i64 h.word):=cell_of_blk HB55.out _
  have f56:w55.frozen? ⟨i,5,none⟩=false:=froz_of_blk HB55.out _
  obtain ⟨w56,hw56⟩: ∃u,w55.setCell ⟨i,5,none⟩ (.int .i64 0)=u:=⟨_,rfl⟩
  have hf:Fr (fun q=>q=i) w55 w56:=by rw [←hw56];exact (Fr.refl (fun q=>q=i) w55).setb 5 _
  have HB56:Hid (w56.heap[i]?=some (.cells ((Rs.icells ({{{{{h with name:= []} with of_:= []} with give:= []} with to_:= []} with word:=0}:Rs.Item) c d n l).toArray) 49 (0,0))):=by rw [←hw56];exact blk_set HB55.out 5 _
  have HW56:Hid (WR G (fun q=>P q∨q=i) b k s55 w56):=HW55.out.fr hf (fun q e=>⟨.inr e,by have e:q=i:=e;subst e;exact Nat.le_of_not_lt fun h=>HI.out (HG.out _ h)⟩)
  have HF56:Hid (Fr (fun q=> ¬P q) w w56):=HF55.out.trans (hf.mono (fun q _ e e2=>by have e:q=i:=e;subst e;exact HI.out e2))
  clear hf
  have s56_:True:=trivial
  obtain ⟨s56,HS56⟩: ∃z,Hid (s55.app []=z):=⟨_,rfl⟩
  have n56:s56.n≤s55.n:=by rw [←HS56.out];exact Nat.le_refl _
  have HW56:Hid (WR G (fun q=>P q∨q=i) b k s56 w56):=by rw [←HS56.out];exact HW56.out
  go_wp2_with fail
  refine (words_new HW56.out [[59]] _ rfl _ _ (by decide) (by show s56.n+2*1≤lim;omega)).mono ?_
  rintro e w57 ⟨rfl,h1,hf⟩
  clear c56 f56 hw56 s56_
  have hl57:([[59]]:List Rs.Bytes).length≤1:=by decide
  obtain ⟨s57,HS57⟩: ∃z,Hid (s56.app [[59]]=z):=⟨_,rfl⟩
  have n57:s57.n≤s56.n+2*1:=by rw [←HS57.out,St.app_n];have:=hl57;omega
  have HW57:Hid (WR G (fun q=>P q∨q=i) b k s57 w57):=by rw [←HS57.out];exact h1
  have HB57:Hid (w57.heap[i]?=some (.cells ((Rs.icells ({{{{{h with name:= []} with of_:= []} with give:= []} with to_:= []} with word:=0}:Rs.Item) c d n l).toArray) 49 (0,0))):=hf.blk HB56.out (fun e=>e (.inr rfl))
  have HF57:Hid (Fr (fun q=> ¬P q) w w57):=HF56.out.trans (hf.mono (fun q _ e e2=>e (.inl e2)))
  clear h1 hf
  go_wp2_with fail
  first|go_end0|refine bodyPost_ret (results_none rfl _ _ _) rfl ?_
  exact .inr ⟨ts1++([[98,121]]++(ts43++([[110,111,118,97,116,101,115]]++(ts53++([[116,111]]++(ts55++([]++([[59]])))))))),(by show act h=some _;unfold act;rw [HT1.out,(show actOf h.of_=name h.of_ from (if_neg HNA.out).trans (if_neg hc5.out)),HT43.out,(show actWord h=cat (ok [[110,111,118,97,116,101,115]]) (cat (name h.give) (cat (ok [[116,111]]) (name h.to_))) from (if_pos (.inr hc51.out)).trans (by rw [if_neg HK2.out])),HT53.out,HT55.out]<;>(first|rfl|simp [cat,ok,natureT,semi])),rfl,⟨(by rw [←St.app_app,HS1.out,←St.app_app,HS2.out,←St.app_app,HS43.out,←St.app_app,HS52.out,←St.app_app,HS53.out,←St.app_app,HS54.out,←St.app_app,HS55.out,←St.app_app,HS56.out,HS57.out];exact HW57.out),(by unfold actLeft;rw [if_neg (by rw [hc51.out];decide)];exact HB57.out)⟩,HF57.out⟩
 have hc51:=hdd hq51
 have HK3:=hdd hq51
 clear hq51
 by_cases hq58:h.word=1
 ·have hc58:=hdd hq58
  have cb5:w43.cell? ⟨i,5,none⟩=some (.int .i64 1):=(cell_of_blk HB43.out 5).trans (by show some (Value.int .i64 h.word)=_;rw [hq58])
  have HK1:=hdd hq58
  clear hq58
  by_cases hq59:h.unit= []
  ·have hc59:=hdd hq59
   have cb18:w43.cell? ⟨i,18,none⟩=some (.string ⟨#[]⟩):=(cell_of_blk HB43.out 18).trans (by show some (sv h.unit)=_;rw [hq59])
   have HUN:=hdd hq59
   clear hq59
   by_cases hq60:h.to_= []
   ·have hc60:=hdd hq60
    have cb22:w43.cell? ⟨i,22,none⟩=some (.string ⟨#[]⟩):=(cell_of_blk HB43.out 22).trans (by show some (sv h.to_)=_;rw [hq60])
    have HTO:=hdd hq60
    clear hq60
    have HB61:Hid (w43.heap[i]?=some (.cells ((Rs.icells ({{{h with name:= []} with of_:= []} with to_:= []}:Rs.Item) c d n l).toArray) 49 (0,0))):=by
     have hb:=HB43.out
     rw [HTO.out] at hb
     exact hb
    have HW61:=HW43;have HF61:=HF43
    obtain ⟨s61,HS61⟩: ∃z,Hid (s43.app []=z):=⟨_,rfl⟩
    have n61:s61.n≤s43.n:=by rw [←HS61.out];exact Nat.le_refl _
    have HW61:Hid (WR G (fun q=>P q∨q=i) b k s61 w43):=by rw [←HS61.out];exact HW61.out
    have c62:w43.cell? ⟨i,5,none⟩=some (.int .i64 h.word):=cell_of_blk HB61.out _
    have f62:w43.frozen? ⟨i,5,none⟩=false:=froz_of_blk HB61.out _
    obtain ⟨w62,hw62⟩: ∃u,w43.setCell ⟨i,5,none⟩ (.int .i64 0)=u:=⟨_,rfl⟩
    have hf:Fr (fun q=>q=i) w43 w62:=by rw [←hw62];exact (Fr.refl (fun q=>q=i) w43).setb 5 _
    have HB62:Hid (w62.heap[i]?=some (.cells ((Rs.icells ({{{{h with name:= []} with of_:= []} with to_:= []} with word:=0}:Rs.Item) c d n l).toArray) 49 (0,0))):=by rw [←hw62];exact blk_set HB61.out 5 _
    have HW62:Hid (WR G (fun q=>P q∨q=i) b k s61 w62):=HW61.out.fr hf (fun q e=>⟨.inr e,by have e:q=i:=e;subst e;exact Nat.le_of_not_lt fun h=>HI.out (HG.out _ h)⟩)
    have HF62:Hid (Fr (fun q=> ¬P q) w w62):=HF61.out.trans (hf.mono (fun q _ e e2=>by have e:q=i:=e;subst e;exact HI.out e2))
    clear hf
    have s62_:True:=trivial
    obtain ⟨s62,HS62⟩: ∃z,Hid (s61.app []=z):=⟨_,rfl⟩
    have n62:s62.n≤s61.n:=by rw [←HS62.out];exact Nat.le_refl _
    have HW62:Hid (WR G (fun q=>P q∨q=i) b k s62 w62):=by rw [←HS62.out];exact HW62.out
    go_wp2_with fail
    refine (words_new HW62.out [[59]] _ rfl _ _ (by decide) (by show s62.n+2*1≤lim;omega)).mono ?_
    rintro e w63 ⟨rfl,h1,hf⟩
    clear cb5 cb18 cb22 c62 f62 hw62 s62_
    have hl63:([[59]]:List Rs.Bytes).length≤1:=by decide
    obtain ⟨s63,HS63⟩: ∃z,Hid (s62.app [[59]]=z):=⟨_,rfl⟩
    have n63:s63.n≤s62.n+2*1:=by rw [←HS63.out,St.app_n];have:=hl63;omega
    have HW63:Hid (WR G (fun q=>P q∨q=i) b k s63 w63):=by rw [←HS63.out];exact h1
    have HB63:Hid (w63.heap[i]?=some (.cells ((Rs.icells ({{{{h with name:= []} with of_:= []} with to_:= []} with word:=0}:Rs.Item) c d n l).toArray) 49 (0,0))):=hf.blk HB62.out (fun e=>e (.inr rfl))
    have HF63:Hid (Fr (fun q=> ¬P q) w w63):=HF62.out.trans (hf.mono (fun q _ e e2=>e (.inl e2)))
    clear h1 hf
    go_wp2_with fail
    first|go_end0|refine bodyPost_ret (results_none rfl _ _ _) rfl ?_
    exact .inr ⟨ts1++([[98,121]]++(ts43++([]++([]++([[59]]))))),(by show act h=some _;unfold act;rw [HT1.out,(show actOf h.of_=name h.of_ from (if_neg HNA.out).trans (if_neg hc5.out)),HT43.out,(show actWord h=cat ((if h.unit= [] then ok [] else cat (ok [[109,111,118,101,115]]) (amount h.num h.unit))) ((if h.to_= [] then ok [] else cat (ok [[116,111]]) (name h.to_))) from (if_neg (fun e=>e.elim HK2.out HK3.out)).trans (if_pos hc58.out)),if_pos hc59.out,if_pos hc60.out]<;>(first|rfl|simp [cat,ok,natureT,semi])),rfl,⟨(by rw [←St.app_app,HS1.out,←St.app_app,HS2.out,←St.app_app,HS43.out,←St.app_app,HS61.out,←St.app_app,HS62.out,HS63.out];exact HW63.out),(by unfold actLeft;rw [if_pos HK1.out,if_pos hc59.out];exact HB63.out)⟩,HF63.out⟩
   have hc60:=hdd hq60
   have cb22:w43.cell? ⟨i,22,none⟩=some (.string ⟨h.to_.toArray⟩):=cell_of_blk HB43.out 22
   have qb22:(h.to_== [])=false:=by simpa using hq60
   have qc22:(h.to_ != [])=true:=by simpa using hq60
   have HTO:=hdd hq60
   clear hq60
   go_wp2_with fail
   refine (words_new HW43.out [[116,111]] _ rfl _ _ (by decide) (by show s43.n+2*1≤lim;omega)).mono ?_
   rintro e w64 ⟨rfl,h1,hf⟩
   clear cb5 cb18 cb22 qb22 qc22
   have hl64:([[116,111]]:List Rs.Bytes).length≤1:=by decide
   obtain ⟨s64,HS64⟩: ∃z,Hid (s43.app [[116,111]]=z):=⟨_,rfl⟩
   have n64:s64.n≤s43.n+2*1:=by rw [←HS64.out,St.app_n];have:=hl64;omega
   have HW64:Hid (WR G (fun q=>P q∨q=i) b k s64 w64):=by rw [←HS64.out];exact h1
   have HB64:Hid (w64.heap[i]?=some (.cells ((Rs.icells ({{h with name:= []} with of_:= []}:Rs.Item) c d n l).toArray) 49 (0,0))):=hf.blk HB43.out (fun e=>e (.inr rfl))
   have HF64:Hid (Fr (fun q=> ¬P q) w w64):=HF43.out.trans (hf.mono (fun q _ e e2=>e (.inl e2)))
   clear h1 hf
   go_wp2_with fail
   refine (name_any HW64.out HI.out HG.out (h.to_) HB64.out rfl (by exact HO.out.to_) (by omega)).mono ?_
   rintro e w65 (⟨ht,rfl,hf⟩|⟨ts65,ht,rfl,⟨h1,hb⟩,hf⟩)
   ·have ht:name (h.to_)=none:=(by exact ht)
    exact ⟨rfl,.inl ⟨(by show act h=none;unfold act;rw [HT1.out,(show actOf h.of_=name h.of_ from (if_neg HNA.out).trans (if_neg hc5.out)),HT43.out,(show actWord h=cat ((if h.unit= [] then ok [] else cat (ok [[109,111,118,101,115]]) (amount h.num h.unit))) ((if h.to_= [] then ok [] else cat (ok [[116,111]]) (name h.to_))) from (if_neg (fun e=>e.elim HK2.out HK3.out)).trans (if_pos hc58.out)),if_pos hc59.out,if_neg hc60.out,ht]<;>rfl),rfl,HF64.out.trans hf⟩⟩
   have ht:name (h.to_)=some ts65:=(by exact ht)
   have hl65:ts65.length≤1:=name_le _ ht
   have HT65:=hdd ht
   obtain ⟨s65,HS65⟩: ∃z,Hid (s64.app ts65=z):=⟨_,rfl⟩
   have n65:s65.n≤s64.n+2*1:=by rw [←HS65.out,St.app_n];have:=hl65;omega
   have HW65:Hid (WR G (fun q=>P q∨q=i) b k s65 w65):=by rw [←HS65.out];exact h1
   have HB65:Hid (w65.heap[i]?=some (.cells ((Rs.icells ({{{h with name:= []} with of_:= []} with to_:= []}:Rs.Item) c d n l).toArray) 49 (0,0))):=hb
   have HF65:Hid (Fr (fun q=> ¬P q) w w65):=HF64.out.trans hf
   clear hb ht
   clear h1 hf
   have c66:w65.cell? ⟨i,5,none⟩=some (.int .i64 h.word):=cell_of_blk HB65.out _
   have f66:w65.frozen? ⟨i,5,none⟩=false:=froz_of_blk HB65.out _
   obtain ⟨w66,hw66⟩: ∃u,w65.setCell ⟨i,5,none⟩ (.int .i64 0)=u:=⟨_,rfl⟩
   have hf:Fr (fun q=>q=i) w65 w66:=by rw [←hw66];exact (Fr.refl (fun q=>q=i) w65).setb 5 _
   have HB66:Hid (w66.heap[i]?=some (.cells ((Rs.icells ({{{{h with name:= []} with of_:= []} with to_:= []} with word:=0}:Rs.Item) c d n l).toArray) 49 (0,0))):=by rw [←hw66];exact blk_set HB65.out 5 _
   have HW66:Hid (WR G (fun q=>P q∨q=i) b k s65 w66):=HW65.out.fr hf (fun q e=>⟨.inr e,by have e:q=i:=e;subst e;exact Nat.le_of_not_lt fun h=>HI.out (HG.out _ h)⟩)
   have HF66:Hid (Fr (fun q=> ¬P q) w w66):=HF65.out.trans (hf.mono (fun q _ e e2=>by have e:q=i:=e;subst e;exact HI.out e2))
   clear hf
   have s66_:True:=trivial
   obtain ⟨s66,HS66⟩: ∃z,Hid (s65.app []=z):=⟨_,rfl⟩
   have n66:s66.n≤s65.n:=by rw [←HS66.out];exact Nat.le_refl _
   have HW66:Hid (WR G (fun q=>P q∨q=i) b k s66 w66):=by rw [←HS66.out];exact HW66.out
   go_wp2_with fail
   refine (words_new HW66.out [[59]] _ rfl _ _ (by decide) (by show s66.n+2*1≤lim;omega)).mono ?_
   rintro e w67 ⟨rfl,h1,hf⟩
   clear c66 f66 hw66 s66_
   have hl67:([[59]]:List Rs.Bytes).length≤1:=by decide
   obtain ⟨s67,HS67⟩: ∃z,Hid (s66.app [[59]]=z):=⟨_,rfl⟩
   have n67:s67.n≤s66.n+2*1:=by rw [←HS67.out,St.app_n];have:=hl67;omega
   have HW67:Hid (WR G (fun q=>P q∨q=i) b k s67 w67):=by rw [←HS67.out];exact h1
   have HB67:Hid (w67.heap[i]?=some (.cells ((Rs.icells ({{{{h with name:= []} with of_:= []} with to_:= []} with word:=0}:Rs.Item) c d n l).toArray) 49 (0,0))):=hf.blk HB66.out (fun e=>e (.inr rfl))
   have HF67:Hid (Fr (fun q=> ¬P q) w w67):=HF66.out.trans (hf.mono (fun q _ e e2=>e (.inl e2)))
   clear h1 hf
   go_wp2_with fail
   first|go_end0|refine bodyPost_ret (results_none rfl _ _ _) rfl ?_
   exact .inr ⟨ts1++([[98,121]]++(ts43++([[116,111]]++(ts65++([]++([[59]])))))),(by show act h=some _;unfold act;rw [HT1.out,(show actOf h.of_=name h.of_ from (if_neg HNA.out).trans (if_neg hc5.out)),HT43.out,(show actWord h=cat ((if h.unit= [] then ok [] else cat (ok [[109,111,118,101,115]]) (amount h.num h.unit))) ((if h.to_= [] then ok [] else cat (ok [[116,111]]) (name h.to_))) from (if_neg (fun e=>e.elim HK2.out HK3.out)).trans (if_pos hc58.out)),if_pos hc59.out,if_neg hc60.out,HT65.out]<;>(first|rfl|simp [cat,ok,natureT,semi])),rfl,⟨(by rw [←St.app_app,HS1.out,←St.app_app,HS2.out,←St.app_app,HS43.out,←St.app_app,HS64.out,←St.app_app,HS65.out,←St.app_app,HS66.out,HS67.out];exact HW67.out),(by unfold actLeft;rw [if_pos HK1.out,if_pos hc59.out];exact HB67.out)⟩,HF67.out⟩
  have hc59:=hdd hq59
  have cb18:w43.cell? ⟨i,18,none⟩=some (.string ⟨h.unit.toArray⟩):=cell_of_blk HB43.out 18
  have qb18:(h.unit== [])=false:=by simpa using hq59
  have qc18:(h.unit != [])=true:=by simpa using hq59
  have HUN:=hdd hq59
  clear hq59
  go_wp2_with fail
  refine (words_new HW43.out [[109,111,118,101,115]] _ rfl _ _ (by decide) (by show s43.n+2*1≤lim;omega)).mono ?_
  rintro e w68 ⟨rfl,h1,hf⟩
  clear cb5 cb18 qb18 qc18
  have hl68:([[109,111,118,101,115]]:List Rs.Bytes).length≤1:=by decide
  obtain ⟨s68,HS68⟩: ∃z,Hid (s43.app [[109,111,118,101,115]]=z):=⟨_,rfl⟩
  have n68:s68.n≤s43.n+2*1:=by rw [←HS68.out,St.app_n];have:=hl68;omega
  have HW68:Hid (WR G (fun q=>P q∨q=i) b k s68 w68):=by rw [←HS68.out];exact h1
  have HB68:Hid (w68.heap[i]?=some (.cells ((Rs.icells ({{h with name:= []} with of_:= []}:Rs.Item) c d n l).toArray) 49 (0,0))):=hf.blk HB43.out (fun e=>e (.inr rfl))
  have HF68:Hid (Fr (fun q=> ¬P q) w w68):=HF43.out.trans (hf.mono (fun q _ e e2=>e (.inl e2)))
  clear h1 hf
  go_wp2_with fail
  refine (amount_any HW68.out HI.out HG.out HB68.out (by constructor<;>first|exact HO.out.name|exact HO.out.of_|exact HO.out.act|exact HO.out.by_|exact HO.out.til|exact HO.out.unit|exact HO.out.sum|exact HO.out.give|exact HO.out.to_|exact HO.out.wn|exact HO.out.gn|exact left_len HO.out.wn|exact left_len HO.out.gn|exact HO.out.conds|exact HO.out.names|exact Nat.zero_le _) (by omega)).mono ?_
  rintro e w69 (⟨ht,rfl,hf⟩|⟨ts69,ht,rfl,⟨h1,hb⟩,hf⟩)
  ·have ht:amount h.num h.unit=none:=(by exact ht)
   exact ⟨rfl,.inl ⟨(by show act h=none;unfold act;rw [HT1.out,(show actOf h.of_=name h.of_ from (if_neg HNA.out).trans (if_neg hc5.out)),HT43.out,(show actWord h=cat ((if h.unit= [] then ok [] else cat (ok [[109,111,118,101,115]]) (amount h.num h.unit))) ((if h.to_= [] then ok [] else cat (ok [[116,111]]) (name h.to_))) from (if_neg (fun e=>e.elim HK2.out HK3.out)).trans (if_pos hc58.out)),if_neg hc59.out,ht]<;>rfl),rfl,HF68.out.trans hf⟩⟩
  have ht:amount h.num h.unit=some ts69:=(by exact ht)
  have hl69:ts69.length≤4:=amount_le _ ht
  have HT69:=hdd ht
  obtain ⟨s69,HS69⟩: ∃z,Hid (s68.app ts69=z):=⟨_,rfl⟩
  have n69:s69.n≤s68.n+2*4:=by rw [←HS69.out,St.app_n];have:=hl69;omega
  have HW69:Hid (WR G (fun q=>P q∨q=i) b k s69 w69):=by rw [←HS69.out];exact h1
  have HB69:Hid (w69.heap[i]?=some (.cells ((Rs.icells (amountLeft ({{h with name:= []} with of_:= []}):Rs.Item) c d n l).toArray) 49 (0,0))):=hb
  have HF69:Hid (Fr (fun q=> ¬P q) w w69):=HF68.out.trans hf
  clear hb ht
  clear h1 hf
  by_cases hq70:h.to_= []
  ·have hc70:=hdd hq70
   have cb22:w69.cell? ⟨i,22,none⟩=some (.string ⟨#[]⟩):=(cell_of_blk HB69.out 22).trans (by show some (sv h.to_)=_;rw [hq70])
   have HTO:=hdd hq70
   clear hq70
   have HB71:Hid (w69.heap[i]?=some (.cells ((Rs.icells ({amountLeft ({{h with name:= []} with of_:= []}) with to_:= []}:Rs.Item) c d n l).toArray) 49 (0,0))):=by
    have hb:=HB69.out
    rw [HTO.out] at hb
    exact hb
   have HW71:=HW69;have HF71:=HF69
   obtain ⟨s71,HS71⟩: ∃z,Hid (s69.app []=z):=⟨_,rfl⟩
   have n71:s71.n≤s69.n:=by rw [←HS71.out];exact Nat.le_refl _
   have HW71:Hid (WR G (fun q=>P q∨q=i) b k s71 w69):=by rw [←HS71.out];exact HW71.out
   have c72:w69.cell? ⟨i,5,none⟩=some (.int .i64 h.word):=cell_of_blk HB71.out _
   have f72:w69.frozen? ⟨i,5,none⟩=false:=froz_of_blk HB71.out _
   obtain ⟨w72,hw72⟩: ∃u,w69.setCell ⟨i,5,none⟩ (.int .i64 0)=u:=⟨_,rfl⟩
   have hf:Fr (fun q=>q=i) w69 w72:=by rw [←hw72];exact (Fr.refl (fun q=>q=i) w69).setb 5 _
   have HB72:Hid (w72.heap[i]?=some (.cells ((Rs.icells ({{amountLeft ({{h with name:= []} with of_:= []}) with to_:= []} with word:=0}:Rs.Item) c d n l).toArray) 49 (0,0))):=by rw [←hw72];exact blk_set HB71.out 5 _
   have HW72:Hid (WR G (fun q=>P q∨q=i) b k s71 w72):=HW71.out.fr hf (fun q e=>⟨.inr e,by have e:q=i:=e;subst e;exact Nat.le_of_not_lt fun h=>HI.out (HG.out _ h)⟩)
   have HF72:Hid (Fr (fun q=> ¬P q) w w72):=HF71.out.trans (hf.mono (fun q _ e e2=>by have e:q=i:=e;subst e;exact HI.out e2))
   clear hf
   have s72_:True:=trivial
   obtain ⟨s72,HS72⟩: ∃z,Hid (s71.app []=z):=⟨_,rfl⟩
   have n72:s72.n≤s71.n:=by rw [←HS72.out];exact Nat.le_refl _
   have HW72:Hid (WR G (fun q=>P q∨q=i) b k s72 w72):=by rw [←HS72.out];exact HW72.out
   go_wp2_with fail
   refine (words_new HW72.out [[59]] _ rfl _ _ (by decide) (by show s72.n+2*1≤lim;omega)).mono ?_
   rintro e w73 ⟨rfl,h1,hf⟩
   clear cb22 c72 f72 hw72 s72_
   have hl73:([[59]]:List Rs.Bytes).length≤1:=by decide
   obtain ⟨s73,HS73⟩: ∃z,Hid (s72.app [[59]]=z):=⟨_,rfl⟩
   have n73:s73.n≤s72.n+2*1:=by rw [←HS73.out,St.app_n];have:=hl73;omega
   have HW73:Hid (WR G (fun q=>P q∨q=i) b k s73 w73):=by rw [←HS73.out];exact h1
   have HB73:Hid (w73.heap[i]?=some (.cells ((Rs.icells ({{amountLeft ({{h with name:= []} with of_:= []}) with to_:= []} with word:=0}:Rs.Item) c d n l).toArray) 49 (0,0))):=hf.blk HB72.out (fun e=>e (.inr rfl))
   have HF73:Hid (Fr (fun q=> ¬P q) w w73):=HF72.out.trans (hf.mono (fun q _ e e2=>e (.inl e2)))
   clear h1 hf
   go_wp2_with fail
   first|go_end0|refine bodyPost_ret (results_none rfl _ _ _) rfl ?_
   exact .inr ⟨ts1++([[98,121]]++(ts43++([[109,111,118,101,115]]++(ts69++([]++([]++([[59]]))))))),(by show act h=some _;unfold act;rw [HT1.out,(show actOf h.of_=name h.of_ from (if_neg HNA.out).trans (if_neg hc5.out)),HT43.out,(show actWord h=cat ((if h.unit= [] then ok [] else cat (ok [[109,111,118,101,115]]) (amount h.num h.unit))) ((if h.to_= [] then ok [] else cat (ok [[116,111]]) (name h.to_))) from (if_neg (fun e=>e.elim HK2.out HK3.out)).trans (if_pos hc58.out)),if_neg hc59.out,HT69.out,if_pos hc70.out]<;>(first|rfl|simp [cat,ok,natureT,semi])),rfl,⟨(by rw [←St.app_app,HS1.out,←St.app_app,HS2.out,←St.app_app,HS43.out,←St.app_app,HS68.out,←St.app_app,HS69.out,←St.app_app,HS71.out,←St.app_app,HS72.out,HS73.out];exact HW73.out),(by unfold actLeft;rw [if_pos HK1.out,if_neg hc59.out];exact HB73.out)⟩,HF73.out⟩
  have hc70:=hdd hq70
  have cb22:w69.cell? ⟨i,22,none⟩=some (.string ⟨h.to_.toArray⟩):=cell_of_blk HB69.out 22
  have qb22:(h.to_== [])=false:=by simpa using hq70
  have qc22:(h.to_ != [])=true:=by simpa using hq70
  have HTO:=hdd hq70
  clear hq70
  go_wp2_with fail
  refine (words_new HW69.out [[116,111]] _ rfl _ _ (by decide) (by show s69.n+2*1≤lim;omega)).mono ?_
  rintro e w74 ⟨rfl,h1,hf⟩
  clear cb22 qb22 qc22
  have hl74:([[116,111]]:List Rs.Bytes).length≤1:=by decide
  obtain ⟨s74,HS74⟩: ∃z,Hid (s69.app [[116,111]]=z):=⟨_,rfl⟩
  have n74:s74.n≤s69.n+2*1:=by rw [←HS74.out,St.app_n];have:=hl74;omega
  have HW74:Hid (WR G (fun q=>P q∨q=i) b k s74 w74):=by rw [←HS74.out];exact h1
  have HB74:Hid (w74.heap[i]?=some (.cells ((Rs.icells (amountLeft ({{h with name:= []} with of_:= []}):Rs.Item) c d n l).toArray) 49 (0,0))):=hf.blk HB69.out (fun e=>e (.inr rfl))
  have HF74:Hid (Fr (fun q=> ¬P q) w w74):=HF69.out.trans (hf.mono (fun q _ e e2=>e (.inl e2)))
  clear h1 hf
  go_wp2_with fail
  refine (name_any HW74.out HI.out HG.out (h.to_) HB74.out rfl (by exact HO.out.to_) (by omega)).mono ?_
  rintro e w75 (⟨ht,rfl,hf⟩|⟨ts75,ht,rfl,⟨h1,hb⟩,hf⟩)
  ·have ht:name (h.to_)=none:=(by exact ht)
   exact ⟨rfl,.inl ⟨(by show act h=none;unfold act;rw [HT1.out,(show actOf h.of_=name h.of_ from (if_neg HNA.out).trans (if_neg hc5.out)),HT43.out,(show actWord h=cat ((if h.unit= [] then ok [] else cat (ok [[109,111,118,101,115]]) (amount h.num h.unit))) ((if h.to_= [] then ok [] else cat (ok [[116,111]]) (name h.to_))) from (if_neg (fun e=>e.elim HK2.out HK3.out)).trans (if_pos hc58.out)),if_neg hc59.out,HT69.out,if_neg hc70.out,ht]<;>rfl),rfl,HF74.out.trans hf⟩⟩
  have ht:name (h.to_)=some ts75:=(by exact ht)
  have hl75:ts75.length≤1:=name_le _ ht
  have HT75:=hdd ht
  obtain ⟨s75,HS75⟩: ∃z,Hid (s74.app ts75=z):=⟨_,rfl⟩
  have n75:s75.n≤s74.n+2*1:=by rw [←HS75.out,St.app_n];have:=hl75;omega
  have HW75:Hid (WR G (fun q=>P q∨q=i) b k s75 w75):=by rw [←HS75.out];exact h1
  have HB75:Hid (w75.heap[i]?=some (.cells ((Rs.icells ({amountLeft ({{h with name:= []} with of_:= []}) with to_:= []}:Rs.Item) c d n l).toArray) 49 (0,0))):=hb
  have HF75:Hid (Fr (fun q=> ¬P q) w w75):=HF74.out.trans hf
  clear hb ht
  clear h1 hf
  have c76:w75.cell? ⟨i,5,none⟩=some (.int .i64 h.word):=cell_of_blk HB75.out _
  have f76:w75.frozen? ⟨i,5,none⟩=false:=froz_of_blk HB75.out _
  obtain ⟨w76,hw76⟩: ∃u,w75.setCell ⟨i,5,none⟩ (.int .i64 0)=u:=⟨_,rfl⟩
  have hf:Fr (fun q=>q=i) w75 w76:=by rw [←hw76];exact (Fr.refl (fun q=>q=i) w75).setb 5 _
  have HB76:Hid (w76.heap[i]?=some (.cells ((Rs.icells ({{amountLeft ({{h with name:= []} with of_:= []}) with to_:= []} with word:=0}:Rs.Item) c d n l).toArray) 49 (0,0))):=by rw [←hw76];exact blk_set HB75.out 5 _
  have HW76:Hid (WR G (fun q=>P q∨q=i) b k s75 w76):=HW75.out.fr hf (fun q e=>⟨.inr e,by have e:q=i:=e;subst e;exact Nat.le_of_not_lt fun h=>HI.out (HG.out _ h)⟩)
  have HF76:Hid (Fr (fun q=> ¬P q) w w76):=HF75.out.trans (hf.mono (fun q _ e e2=>by have e:q=i:=e;subst e;exact HI.out e2))
  clear hf
  have s76_:True:=trivial
  obtain ⟨s76,HS76⟩: ∃z,Hid (s75.app []=z):=⟨_,rfl⟩
  have n76:s76.n≤s75.n:=by rw [←HS76.out];exact Nat.le_refl _
  have HW76:Hid (WR G (fun q=>P q∨q=i) b k s76 w76):=by rw [←HS76.out];exact HW76.out
  go_wp2_with fail
  refine (words_new HW76.out [[59]] _ rfl _ _ (by decide) (by show s76.n+2*1≤lim;omega)).mono ?_
  rintro e w77 ⟨rfl,h1,hf⟩
  clear c76 f76 hw76 s76_
  have hl77:([[59]]:List Rs.Bytes).length≤1:=by decide
  obtain ⟨s77,HS77⟩: ∃z,Hid (s76.app [[59]]=z):=⟨_,rfl⟩
  have n77:s77.n≤s76.n+2*1:=by rw [←HS77.out,St.app_n];have:=hl77;omega
  have HW77:Hid (WR G (fun q=>P q∨q=i) b k s77 w77):=by rw [←HS77.out];exact h1
  have HB77:Hid (w77.heap[i]?=some (.cells ((Rs.icells ({{amountLeft ({{h with name:= []} with of_:= []}) with to_:= []} with word:=0}:Rs.Item) c d n l).toArray) 49 (0,0))):=hf.blk HB76.out (fun e=>e (.inr rfl))
  have HF77:Hid (Fr (fun q=> ¬P q) w w77):=HF76.out.trans (hf.mono (fun q _ e e2=>e (.inl e2)))
  clear h1 hf
  go_wp2_with fail
  first|go_end0|refine bodyPost_ret (results_none rfl _ _ _) rfl ?_
  exact .inr ⟨ts1++([[98,121]]++(ts43++([[109,111,118,101,115]]++(ts69++([[116,111]]++(ts75++([]++([[59]])))))))),(by show act h=some _;unfold act;rw [HT1.out,(show actOf h.of_=name h.of_ from (if_neg HNA.out).trans (if_neg hc5.out)),HT43.out,(show actWord h=cat ((if h.unit= [] then ok [] else cat (ok [[109,111,118,101,115]]) (amount h.num h.unit))) ((if h.to_= [] then ok [] else cat (ok [[116,111]]) (name h.to_))) from (if_neg (fun e=>e.elim HK2.out HK3.out)).trans (if_pos hc58.out)),if_neg hc59.out,HT69.out,if_neg hc70.out,HT75.out]<;>(first|rfl|simp [cat,ok,natureT,semi])),rfl,⟨(by rw [←St.app_app,HS1.out,←St.app_app,HS2.out,←St.app_app,HS43.out,←St.app_app,HS68.out,←St.app_app,HS69.out,←St.app_app,HS74.out,←St.app_app,HS75.out,←St.app_app,HS76.out,HS77.out];exact HW77.out),(by unfold actLeft;rw [if_pos HK1.out,if_neg hc59.out];exact HB77.out)⟩,HF77.out⟩
 have hc58:=hdd hq58
 have cb5:w43.cell? ⟨i,5,none⟩=some (.int .i64 h.word):=cell_of_blk HB43.out 5
 have qa1:(h.word==1)=false:=beq_eq_false_iff_ne.2 hq58
 have qa2:(h.word==2)=false:=beq_eq_false_iff_ne.2 HK2.out
 have qa3:(h.word==3)=false:=beq_eq_false_iff_ne.2 HK3.out
 clear hq58
 go_wp2_with fail
 exact ⟨rfl,.inl ⟨(by show act h=none;unfold act;rw [HT1.out,(show actOf h.of_=name h.of_ from (if_neg HNA.out).trans (if_neg hc5.out)),HT43.out,(show actWord h=none from (if_neg (fun e=>e.elim HK2.out HK3.out)).trans (if_neg hc58.out))]<;>rfl),rfl,HF43.out⟩⟩
theorem ban_any {G:Nat} {P:Nat→Prop} {b:Nat} {k:Value} {s:St} {w:World} {i:Nat} {h:Rs.Item} {c d n l:Value} (hw:WR G (fun q=>P q∨q=i) b k s w) (hi: ¬P i) (hG: ∀q,q<G→P q) (hb:w.heap[i]?=some (.cells (Rs.icells h c d n l).toArray 49 (0,0))) (ho:Ok h) (hn:s.n+(6*h.conds.length+200)≤lim) (hr:RowB P w c 2 (h.conds.map Rs.namedc)):
  Calls Tryz.prog 34 #[.pointer (some ⟨b,0,none⟩),.pointer (some ⟨i,0,none⟩)] w (Out P (ban h) (fun ts w'=>WR G (fun q=>P q∨q=i) b k (s.app ts) w'∧w'.heap[i]?=some (.cells ((Rs.icells (consLeft (circLeft {h with name:= [],of_:= [],act:= [],within:=spanLeft h.within}):Rs.Item) (.slice none 0 0) d n l).toArray) 49 (0,0))) w):=by
 have HW0:=hdd hw;have HI:=hdd hi;have HG:=hdd hG;have HB0:=hdd hb;have HO:=hdd ho
 have HF0:Hid (Fr (fun q=> ¬P q) w w):=Fr.refl _ _
 clear hw hi hG hb ho
 have HR:=hdd hr
 clear hr
 go_enter Tryz.func34,Tryz.ntmps34
 go_wp2_with fail
 refine (begin_any HW0.out HI.out HG.out HB0.out (by constructor<;>first|exact HO.out.name|exact HO.out.of_|exact HO.out.act|exact HO.out.by_|exact HO.out.til|exact HO.out.unit|exact HO.out.sum|exact HO.out.give|exact HO.out.to_|exact HO.out.wn|exact HO.out.gn|exact left_len HO.out.wn|exact left_len HO.out.gn|exact HO.out.conds|exact HO.out.names|exact Nat.zero_le _) (by omega) [98,97,110] (by decide)).mono ?_
 rintro e w1 (⟨ht,rfl,hf⟩|⟨ts1,ht,rfl,⟨h1,hb⟩,hf⟩)
 ·have ht:begin_ [98,97,110] h=none:=(by exact ht)
  exact ⟨rfl,.inl ⟨(by show ban h=none;unfold ban;rw [ht]<;>rfl),rfl,HF0.out.trans hf⟩⟩
 have ht:begin_ [98,97,110] h=some ts1:=(by exact ht)
 have hl1:ts1.length≤2:=begin_le _ ht
 have HT1:=hdd ht
 obtain ⟨s1,HS1⟩: ∃z,Hid (s.app ts1=z):=⟨_,rfl⟩
 have n1:s1.n≤s.n+2*2:=by rw [←HS1.out,St.app_n];have:=hl1;omega
 have HW1:Hid (WR G (fun q=>P q∨q=i) b k s1 w1):=by rw [←HS1.out];exact h1
 have HB1:Hid (w1.heap[i]?=some (.cells ((Rs.icells ({h with name:= []}:Rs.Item) c d n l).toArray) 49 (0,0))):=hb
 have HF1:Hid (Fr (fun q=> ¬P q) w w1):=HF0.out.trans hf
 clear hb ht
 clear h1 hf
 go_wp2_with fail
 refine (bearer_any HW1.out HI.out HG.out HB1.out (by constructor<;>first|exact HO.out.name|exact HO.out.of_|exact HO.out.act|exact HO.out.by_|exact HO.out.til|exact HO.out.unit|exact HO.out.sum|exact HO.out.give|exact HO.out.to_|exact HO.out.wn|exact HO.out.gn|exact left_len HO.out.wn|exact left_len HO.out.gn|exact HO.out.conds|exact HO.out.names|exact Nat.zero_le _) (by omega)).mono ?_
 rintro e w2 (⟨ht,rfl,hf⟩|⟨ts2,ht,rfl,⟨h1,hb⟩,hf⟩)
 ·have ht:bearer h=none:=(by exact ht)
  exact ⟨rfl,.inl ⟨(by show ban h=none;unfold ban;rw [HT1.out,ht]<;>rfl),rfl,HF1.out.trans hf⟩⟩
 have ht:bearer h=some ts2:=(by exact ht)
 have hl2:ts2.length≤4:=bearer_le _ ht
 have HT2:=hdd ht
 obtain ⟨s2,HS2⟩: ∃z,Hid (s1.app ts2=z):=⟨_,rfl⟩
 have n2:s2.n≤s1.n+2*4:=by rw [←HS2.out,St.app_n];have:=hl2;omega
 have HW2:Hid (WR G (fun q=>P q∨q=i) b k s2 w2):=by rw [←HS2.out];exact h1
 have HB2:Hid (w2.heap[i]?=some (.cells ((Rs.icells ({{h with name:= []} with of_:= [],act:= []}:Rs.Item) c d n l).toArray) 49 (0,0))):=hb
 have HF2:Hid (Fr (fun q=> ¬P q) w w2):=HF1.out.trans hf
 clear hb ht
 clear h1 hf
 go_wp2_with fail
 refine (words_new HW2.out [[102,111,114]] _ rfl _ _ (by decide) (by show s2.n+2*1≤lim;omega)).mono ?_
 rintro e w3 ⟨rfl,h1,hf⟩
 have hl3:([[102,111,114]]:List Rs.Bytes).length≤1:=by decide
 obtain ⟨s3,HS3⟩: ∃z,Hid (s2.app [[102,111,114]]=z):=⟨_,rfl⟩
 have n3:s3.n≤s2.n+2*1:=by rw [←HS3.out,St.app_n];have:=hl3;omega
 have HW3:Hid (WR G (fun q=>P q∨q=i) b k s3 w3):=by rw [←HS3.out];exact h1
 have HB3:Hid (w3.heap[i]?=some (.cells ((Rs.icells ({{h with name:= []} with of_:= [],act:= []}:Rs.Item) c d n l).toArray) 49 (0,0))):=hf.blk HB2.out (fun e=>e (.inr rfl))
 have HF3:Hid (Fr (fun q=> ¬P q) w w3):=HF2.out.trans (hf.mono (fun q _ e e2=>e (.inl e2)))
 clear h1 hf
 go_wp2_with fail
 refine (spanW_any HW3.out HI.out HG.out HB3.out (by constructor<;>first|exact HO.out.name|exact HO.out.of_|exact HO.out.act|exact HO.out.by_|exact HO.out.til|exact HO.out.unit|exact HO.out.sum|exact HO.out.give|exact HO.out.to_|exact HO.out.wn|exact HO.out.gn|exact left_len HO.out.wn|exact left_len HO.out.gn|exact HO.out.conds|exact HO.out.names|exact Nat.zero_le _) (by omega)).mono ?_
 rintro e w4 (⟨ht,rfl,hf⟩|⟨ts4,ht,rfl,⟨h1,hb⟩,hf⟩)
 ·have ht:span h.within=none:=(by exact ht)
  exact ⟨rfl,.inl ⟨(by show ban h=none;unfold ban;rw [HT1.out,HT2.out,ht]<;>rfl),rfl,HF3.out.trans hf⟩⟩
 have ht:span h.within=some ts4:=(by exact ht)
 have hl4:ts4.length≤4:=span_le _ ht
 have HT4:=hdd ht
 obtain ⟨s4,HS4⟩: ∃z,Hid (s3.app ts4=z):=⟨_,rfl⟩
 have n4:s4.n≤s3.n+2*4:=by rw [←HS4.out,St.app_n];have:=hl4;omega
 have HW4:Hid (WR G (fun q=>P q∨q=i) b k s4 w4):=by rw [←HS4.out];exact h1
 have HB4:Hid (w4.heap[i]?=some (.cells ((Rs.icells ({{{h with name:= []} with of_:= [],act:= []} with within:=spanLeft h.within}:Rs.Item) c d n l).toArray) 49 (0,0))):=hb
 have HF4:Hid (Fr (fun q=> ¬P q) w w4):=HF3.out.trans hf
 clear hb ht
 clear h1 hf
 go_wp2_with fail
 refine (circ_any HW4.out HI.out HG.out HB4.out (by constructor<;>first|exact HO.out.name|exact HO.out.of_|exact HO.out.act|exact HO.out.by_|exact HO.out.til|exact HO.out.unit|exact HO.out.sum|exact HO.out.give|exact HO.out.to_|exact HO.out.wn|exact HO.out.gn|exact left_len HO.out.wn|exact left_len HO.out.gn|exact HO.out.conds|exact HO.out.names|exact Nat.zero_le _) (HR.out.fr HF4.out (fun q hq e=>e hq)) (by show _+6*h.conds.length+40≤lim;omega)).mono ?_
 rintro e w5 (⟨ht,rfl,hf⟩|⟨ts5,ht,rfl,⟨h1,hb⟩,hf⟩)
 ·have ht:circ h=none:=(by exact ht)
  exact ⟨rfl,.inl ⟨(by show ban h=none;unfold ban;rw [HT1.out,HT2.out,HT4.out,ht]<;>rfl),rfl,HF4.out.trans hf⟩⟩
 have ht:circ h=some ts5:=(by exact ht)
 have hl5:ts5.length≤(3*h.conds.length+5):=circ_le _ ht
 have HT5:=hdd ht
 obtain ⟨s5,HS5⟩: ∃z,Hid (s4.app ts5=z):=⟨_,rfl⟩
 have n5:s5.n≤s4.n+2*(3*h.conds.length+5):=by rw [←HS5.out,St.app_n];have:=hl5;omega
 have HW5:Hid (WR G (fun q=>P q∨q=i) b k s5 w5):=by rw [←HS5.out];exact h1
 have HB5:Hid (w5.heap[i]?=some (.cells ((Rs.icells (circLeft ({{{h with name:= []} with of_:= [],act:= []} with within:=spanLeft h.within}):Rs.Item) (.slice none 0 0) d n l).toArray) 49 (0,0))):=hb
 have HF5:Hid (Fr (fun q=> ¬P q) w w5):=HF4.out.trans hf
 clear hb ht
 clear h1 hf
 go_wp2_with fail
 refine (cons_any HW5.out HI.out HG.out HB5.out (Ok.circ (by constructor<;>first|exact HO.out.name|exact HO.out.of_|exact HO.out.act|exact HO.out.by_|exact HO.out.til|exact HO.out.unit|exact HO.out.sum|exact HO.out.give|exact HO.out.to_|exact HO.out.wn|exact HO.out.gn|exact left_len HO.out.wn|exact left_len HO.out.gn|exact HO.out.conds|exact HO.out.names|exact Nat.zero_le _)) (by omega)).mono ?_
 rintro e w6 (⟨ht,rfl,hf⟩|⟨ts6,ht,rfl,⟨h1,hb⟩,hf⟩)
 ·have ht:cons h=none:=(by rw [cons_circ] at ht;exact ht)
  exact ⟨rfl,.inl ⟨(by show ban h=none;unfold ban;rw [HT1.out,HT2.out,HT4.out,HT5.out,ht]<;>rfl),rfl,HF5.out.trans hf⟩⟩
 have ht:cons h=some ts6:=(by rw [cons_circ] at ht;exact ht)
 have hl6:ts6.length≤8:=cons_le _ ht
 have HT6:=hdd ht
 obtain ⟨s6,HS6⟩: ∃z,Hid (s5.app ts6=z):=⟨_,rfl⟩
 have n6:s6.n≤s5.n+2*8:=by rw [←HS6.out,St.app_n];have:=hl6;omega
 have HW6:Hid (WR G (fun q=>P q∨q=i) b k s6 w6):=by rw [←HS6.out];exact h1
 have HB6:Hid (w6.heap[i]?=some (.cells ((Rs.icells (consLeft (circLeft ({{{h with name:= []} with of_:= [],act:= []} with within:=spanLeft h.within})):Rs.Item) (.slice none 0 0) d n l).toArray) 49 (0,0))):=hb
 have HF6:Hid (Fr (fun q=> ¬P q) w w6):=HF5.out.trans hf
 clear hb ht
 clear h1 hf
 go_wp2_with fail
 refine (words_new HW6.out [[59]] _ rfl _ _ (by decide) (by show s6.n+2*1≤lim;omega)).mono ?_
 rintro e w7 ⟨rfl,h1,hf⟩
 have hl7:([[59]]:List Rs.Bytes).length≤1:=by decide
 obtain ⟨s7,HS7⟩: ∃z,Hid (s6.app [[59]]=z):=⟨_,rfl⟩
 have n7:s7.n≤s6.n+2*1:=by rw [←HS7.out,St.app_n];have:=hl7;omega
 have HW7:Hid (WR G (fun q=>P q∨q=i) b k s7 w7):=by rw [←HS7.out];exact h1
 have HB7:Hid (w7.heap[i]?=some (.cells ((Rs.icells (consLeft (circLeft ({{{h with name:= []} with of_:= [],act:= []} with within:=spanLeft h.within})):Rs.Item) (.slice none 0 0) d n l).toArray) 49 (0,0))):=hf.blk HB6.out (fun e=>e (.inr rfl))
 have HF7:Hid (Fr (fun q=> ¬P q) w w7):=HF6.out.trans (hf.mono (fun q _ e e2=>e (.inl e2)))
 clear h1 hf
 go_wp2_with fail
 first|go_end0|refine bodyPost_ret (results_none rfl _ _ _) rfl ?_
 exact .inr ⟨ts1++(ts2++([[102,111,114]]++(ts4++(ts5++(ts6++([[59]])))))),(by show ban h=some _;unfold ban;rw [HT1.out,HT2.out,HT4.out,HT5.out,HT6.out]<;>(first|rfl|simp [cat,ok,natureT,semi])),rfl,⟨(by rw [←St.app_app,HS1.out,←St.app_app,HS2.out,←St.app_app,HS3.out,←St.app_app,HS4.out,←St.app_app,HS5.out,←St.app_app,HS6.out,HS7.out];exact HW7.out),HB7.out⟩,HF7.out⟩
theorem option_any {G:Nat} {P:Nat→Prop} {b:Nat} {k:Value} {s:St} {w:World} {i:Nat} {h:Rs.Item} {c d n l:Value} (hw:WR G (fun q=>P q∨q=i) b k s w) (hi: ¬P i) (hG: ∀q,q<G→P q) (hb:w.heap[i]?=some (.cells (Rs.icells h c d n l).toArray 49 (0,0))) (ho:Ok h) (hn:s.n+(6*h.conds.length+200)≤lim) (hr:RowB P w c 2 (h.conds.map Rs.namedc)):
  Calls Tryz.prog 35 #[.pointer (some ⟨b,0,none⟩),.pointer (some ⟨i,0,none⟩)] w (Out P (option h) (fun ts w'=>WR G (fun q=>P q∨q=i) b k (s.app ts) w'∧w'.heap[i]?=some (.cells ((Rs.icells (circLeft {h with name:= [],of_:= [],act:= [],within:=spanLeft h.within}:Rs.Item) (.slice none 0 0) d n l).toArray) 49 (0,0))) w):=by
 have HW0:=hdd hw;have HI:=hdd hi;have HG:=hdd hG;have HB0:=hdd hb;have HO:=hdd ho
 have HF0:Hid (Fr (fun q=> ¬P q) w w):=Fr.refl _ _
 clear hw hi hG hb ho
 have HR:=hdd hr
 clear hr
 go_enter Tryz.func35,Tryz.ntmps35
 go_wp2_with fail
 refine (begin_any HW0.out HI.out HG.out HB0.out (by constructor<;>first|exact HO.out.name|exact HO.out.of_|exact HO.out.act|exact HO.out.by_|exact HO.out.til|exact HO.out.unit|exact HO.out.sum|exact HO.out.give|exact HO.out.to_|exact HO.out.wn|exact HO.out.gn|exact left_len HO.out.wn|exact left_len HO.out.gn|exact HO.out.conds|exact HO.out.names|exact Nat.zero_le _) (by omega) [111,112,116,105,111,110] (by decide)).mono ?_
 rintro e w1 (⟨ht,rfl,hf⟩|⟨ts1,ht,rfl,⟨h1,hb⟩,hf⟩)
 ·have ht:begin_ [111,112,116,105,111,110] h=none:=(by exact ht)
  exact ⟨rfl,.inl ⟨(by show option h=none;unfold option;rw [ht]<;>rfl),rfl,HF0.out.trans hf⟩⟩
 have ht:begin_ [111,112,116,105,111,110] h=some ts1:=(by exact ht)
 have hl1:ts1.length≤2:=begin_le _ ht
 have HT1:=hdd ht
 obtain ⟨s1,HS1⟩: ∃z,Hid (s.app ts1=z):=⟨_,rfl⟩
 have n1:s1.n≤s.n+2*2:=by rw [←HS1.out,St.app_n];have:=hl1;omega
 have HW1:Hid (WR G (fun q=>P q∨q=i) b k s1 w1):=by rw [←HS1.out];exact h1
 have HB1:Hid (w1.heap[i]?=some (.cells ((Rs.icells ({h with name:= []}:Rs.Item) c d n l).toArray) 49 (0,0))):=hb
 have HF1:Hid (Fr (fun q=> ¬P q) w w1):=HF0.out.trans hf
 clear hb ht
 clear h1 hf
 go_wp2_with fail
 refine (bearer_any HW1.out HI.out HG.out HB1.out (by constructor<;>first|exact HO.out.name|exact HO.out.of_|exact HO.out.act|exact HO.out.by_|exact HO.out.til|exact HO.out.unit|exact HO.out.sum|exact HO.out.give|exact HO.out.to_|exact HO.out.wn|exact HO.out.gn|exact left_len HO.out.wn|exact left_len HO.out.gn|exact HO.out.conds|exact HO.out.names|exact Nat.zero_le _) (by omega)).mono ?_
 rintro e w2 (⟨ht,rfl,hf⟩|⟨ts2,ht,rfl,⟨h1,hb⟩,hf⟩)
 ·have ht:bearer h=none:=(by exact ht)
  exact ⟨rfl,.inl ⟨(by show option h=none;unfold option;rw [HT1.out,ht]<;>rfl),rfl,HF1.out.trans hf⟩⟩
 have ht:bearer h=some ts2:=(by exact ht)
 have hl2:ts2.length≤4:=bearer_le _ ht
 have HT2:=hdd ht
 obtain ⟨s2,HS2⟩: ∃z,Hid (s1.app ts2=z):=⟨_,rfl⟩
 have n2:s2.n≤s1.n+2*4:=by rw [←HS2.out,St.app_n];have:=hl2;omega
 have HW2:Hid (WR G (fun q=>P q∨q=i) b k s2 w2):=by rw [←HS2.out];exact h1
 have HB2:Hid (w2.heap[i]?=some (.cells ((Rs.icells ({{h with name:= []} with of_:= [],act:= []}:Rs.Item) c d n l).toArray) 49 (0,0))):=hb
 have HF2:Hid (Fr (fun q=> ¬P q) w w2):=HF1.out.trans hf
 clear hb ht
 clear h1 hf
 go_wp2_with fail
 refine (words_new HW2.out [[119,105,116,104,105,110]] _ rfl _ _ (by decide) (by show s2.n+2*1≤lim;omega)).mono ?_
 rintro e w3 ⟨rfl,h1,hf⟩
 have hl3:([[119,105,116,104,105,110]]:List Rs.Bytes).length≤1:=by decide
 obtain ⟨s3,HS3⟩: ∃z,Hid (s2.app [[119,105,116,104,105,110]]=z):=⟨_,rfl⟩
 have n3:s3.n≤s2.n+2*1:=by rw [←HS3.out,St.app_n];have:=hl3;omega
 have HW3:Hid (WR G (fun q=>P q∨q=i) b k s3 w3):=by rw [←HS3.out];exact h1
 have HB3:Hid (w3.heap[i]?=some (.cells ((Rs.icells ({{h with name:= []} with of_:= [],act:= []}:Rs.Item) c d n l).toArray) 49 (0,0))):=hf.blk HB2.out (fun e=>e (.inr rfl))
 have HF3:Hid (Fr (fun q=> ¬P q) w w3):=HF2.out.trans (hf.mono (fun q _ e e2=>e (.inl e2)))
 clear h1 hf
 go_wp2_with fail
 refine (spanW_any HW3.out HI.out HG.out HB3.out (by constructor<;>first|exact HO.out.name|exact HO.out.of_|exact HO.out.act|exact HO.out.by_|exact HO.out.til|exact HO.out.unit|exact HO.out.sum|exact HO.out.give|exact HO.out.to_|exact HO.out.wn|exact HO.out.gn|exact left_len HO.out.wn|exact left_len HO.out.gn|exact HO.out.conds|exact HO.out.names|exact Nat.zero_le _) (by omega)).mono ?_
 rintro e w4 (⟨ht,rfl,hf⟩|⟨ts4,ht,rfl,⟨h1,hb⟩,hf⟩)
 ·have ht:span h.within=none:=(by exact ht)
  exact ⟨rfl,.inl ⟨(by show option h=none;unfold option;rw [HT1.out,HT2.out,ht]<;>rfl),rfl,HF3.out.trans hf⟩⟩
 have ht:span h.within=some ts4:=(by exact ht)
 have hl4:ts4.length≤4:=span_le _ ht
 have HT4:=hdd ht
 obtain ⟨s4,HS4⟩: ∃z,Hid (s3.app ts4=z):=⟨_,rfl⟩
 have n4:s4.n≤s3.n+2*4:=by rw [←HS4.out,St.app_n];have:=hl4;omega
 have HW4:Hid (WR G (fun q=>P q∨q=i) b k s4 w4):=by rw [←HS4.out];exact h1
 have HB4:Hid (w4.heap[i]?=some (.cells ((Rs.icells ({{{h with name:= []} with of_:= [],act:= []} with within:=spanLeft h.within}:Rs.Item) c d n l).toArray) 49 (0,0))):=hb
 have HF4:Hid (Fr (fun q=> ¬P q) w w4):=HF3.out.trans hf
 clear hb ht
 clear h1 hf
 go_wp2_with fail
 refine (circ_any HW4.out HI.out HG.out HB4.out (by constructor<;>first|exact HO.out.name|exact HO.out.of_|exact HO.out.act|exact HO.out.by_|exact HO.out.til|exact HO.out.unit|exact HO.out.sum|exact HO.out.give|exact HO.out.to_|exact HO.out.wn|exact HO.out.gn|exact left_len HO.out.wn|exact left_len HO.out.gn|exact HO.out.conds|exact HO.out.names|exact Nat.zero_le _) (HR.out.fr HF4.out (fun q hq e=>e hq)) (by show _+6*h.conds.length+40≤lim;omega)).mono ?_
 rintro e w5 (⟨ht,rfl,hf⟩|⟨ts5,ht,rfl,⟨h1,hb⟩,hf⟩)
 ·have ht:circ h=none:=(by exact ht)
  exact ⟨rfl,.inl ⟨(by show option h=none;unfold option;rw [HT1.out,HT2.out,HT4.out,ht]<;>rfl),rfl,HF4.out.trans hf⟩⟩
 have ht:circ h=some ts5:=(by exact ht)
 have hl5:ts5.length≤(3*h.conds.length+5):=circ_le _ ht
 have HT5:=hdd ht
 obtain ⟨s5,HS5⟩: ∃z,Hid (s4.app ts5=z):=⟨_,rfl⟩
 have n5:s5.n≤s4.n+2*(3*h.conds.length+5):=by rw [←HS5.out,St.app_n];have:=hl5;omega
 have HW5:Hid (WR G (fun q=>P q∨q=i) b k s5 w5):=by rw [←HS5.out];exact h1
 have HB5:Hid (w5.heap[i]?=some (.cells ((Rs.icells (circLeft ({{{h with name:= []} with of_:= [],act:= []} with within:=spanLeft h.within}):Rs.Item) (.slice none 0 0) d n l).toArray) 49 (0,0))):=hb
 have HF5:Hid (Fr (fun q=> ¬P q) w w5):=HF4.out.trans hf
 clear hb ht
 clear h1 hf
 go_wp2_with fail
 refine (words_new HW5.out [[59]] _ rfl _ _ (by decide) (by show s5.n+2*1≤lim;omega)).mono ?_
 rintro e w6 ⟨rfl,h1,hf⟩
 have hl6:([[59]]:List Rs.Bytes).length≤1:=by decide
 obtain ⟨s6,HS6⟩: ∃z,Hid (s5.app [[59]]=z):=⟨_,rfl⟩
 have n6:s6.n≤s5.n+2*1:=by rw [←HS6.out,St.app_n];have:=hl6;omega
 have HW6:Hid (WR G (fun q=>P q∨q=i) b k s6 w6):=by rw [←HS6.out];exact h1
 have HB6:Hid (w6.heap[i]?=some (.cells ((Rs.icells (circLeft ({{{h with name:= []} with of_:= [],act:= []} with within:=spanLeft h.within}):Rs.Item) (.slice none 0 0) d n l).toArray) 49 (0,0))):=hf.blk HB5.out (fun e=>e (.inr rfl))
 have HF6:Hid (Fr (fun q=> ¬P q) w w6):=HF5.out.trans (hf.mono (fun q _ e e2=>e (.inl e2)))
 clear h1 hf
 go_wp2_with fail
 first|go_end0|refine bodyPost_ret (results_none rfl _ _ _) rfl ?_
 exact .inr ⟨ts1++(ts2++([[119,105,116,104,105,110]]++(ts4++(ts5++([[59]]))))),(by show option h=some _;unfold option;rw [HT1.out,HT2.out,HT4.out,HT5.out]<;>(first|rfl|simp [cat,ok,natureT,semi])),rfl,⟨(by rw [←St.app_app,HS1.out,←St.app_app,HS2.out,←St.app_app,HS3.out,←St.app_app,HS4.out,←St.app_app,HS5.out,HS6.out];exact HW6.out),HB6.out⟩,HF6.out⟩
theorem watch_any {G:Nat} {P:Nat→Prop} {b:Nat} {k:Value} {s:St} {w:World} {i:Nat} {h:Rs.Item} {c d n l:Value} (hw:WR G (fun q=>P q∨q=i) b k s w) (hi: ¬P i) (hG: ∀q,q<G→P q) (hb:w.heap[i]?=some (.cells (Rs.icells h c d n l).toArray 49 (0,0))) (ho:Ok h) (hn:s.n+(6*h.conds.length+200)≤lim) (hr:RowB P w c 2 (h.conds.map Rs.namedc)):
  Calls Tryz.prog 36 #[.pointer (some ⟨b,0,none⟩),.pointer (some ⟨i,0,none⟩)] w (Out P (watch h) (fun ts w'=>WR G (fun q=>P q∨q=i) b k (s.app ts) w'∧w'.heap[i]?=some (.cells ((Rs.icells (circLeft {h with name:= [],act:= [],within:=spanLeft h.within}:Rs.Item) (.slice none 0 0) d n l).toArray) 49 (0,0))) w):=by
 have HW0:=hdd hw;have HI:=hdd hi;have HG:=hdd hG;have HB0:=hdd hb;have HO:=hdd ho
 have HF0:Hid (Fr (fun q=> ¬P q) w w):=Fr.refl _ _
 clear hw hi hG hb ho
 have HR:=hdd hr
 clear hr
 go_enter Tryz.func36,Tryz.ntmps36
 go_wp2_with fail
 refine (begin_any HW0.out HI.out HG.out HB0.out (by constructor<;>first|exact HO.out.name|exact HO.out.of_|exact HO.out.act|exact HO.out.by_|exact HO.out.til|exact HO.out.unit|exact HO.out.sum|exact HO.out.give|exact HO.out.to_|exact HO.out.wn|exact HO.out.gn|exact left_len HO.out.wn|exact left_len HO.out.gn|exact HO.out.conds|exact HO.out.names|exact Nat.zero_le _) (by omega) [119,97,116,99,104] (by decide)).mono ?_
 rintro e w1 (⟨ht,rfl,hf⟩|⟨ts1,ht,rfl,⟨h1,hb⟩,hf⟩)
 ·have ht:begin_ [119,97,116,99,104] h=none:=(by exact ht)
  exact ⟨rfl,.inl ⟨(by show watch h=none;unfold watch;rw [ht]<;>rfl),rfl,HF0.out.trans hf⟩⟩
 have ht:begin_ [119,97,116,99,104] h=some ts1:=(by exact ht)
 have hl1:ts1.length≤2:=begin_le _ ht
 have HT1:=hdd ht
 obtain ⟨s1,HS1⟩: ∃z,Hid (s.app ts1=z):=⟨_,rfl⟩
 have n1:s1.n≤s.n+2*2:=by rw [←HS1.out,St.app_n];have:=hl1;omega
 have HW1:Hid (WR G (fun q=>P q∨q=i) b k s1 w1):=by rw [←HS1.out];exact h1
 have HB1:Hid (w1.heap[i]?=some (.cells ((Rs.icells ({h with name:= []}:Rs.Item) c d n l).toArray) 49 (0,0))):=hb
 have HF1:Hid (Fr (fun q=> ¬P q) w w1):=HF0.out.trans hf
 clear hb ht
 clear h1 hf
 go_wp2_with fail
 refine (words_new HW1.out [[58]] _ rfl _ _ (by decide) (by show s1.n+2*1≤lim;omega)).mono ?_
 rintro e w2 ⟨rfl,h1,hf⟩
 have hl2:([[58]]:List Rs.Bytes).length≤1:=by decide
 obtain ⟨s2,HS2⟩: ∃z,Hid (s1.app [[58]]=z):=⟨_,rfl⟩
 have n2:s2.n≤s1.n+2*1:=by rw [←HS2.out,St.app_n];have:=hl2;omega
 have HW2:Hid (WR G (fun q=>P q∨q=i) b k s2 w2):=by rw [←HS2.out];exact h1
 have HB2:Hid (w2.heap[i]?=some (.cells ((Rs.icells ({h with name:= []}:Rs.Item) c d n l).toArray) 49 (0,0))):=hf.blk HB1.out (fun e=>e (.inr rfl))
 have HF2:Hid (Fr (fun q=> ¬P q) w w2):=HF1.out.trans (hf.mono (fun q _ e e2=>e (.inl e2)))
 clear h1 hf
 go_wp2_with fail
 refine (name_any HW2.out HI.out HG.out (h.act) HB2.out rfl (by exact HO.out.act) (by omega)).mono ?_
 rintro e w3 (⟨ht,rfl,hf⟩|⟨ts3,ht,rfl,⟨h1,hb⟩,hf⟩)
 ·have ht:name (h.act)=none:=(by exact ht)
  exact ⟨rfl,.inl ⟨(by show watch h=none;unfold watch;rw [HT1.out,ht]<;>rfl),rfl,HF2.out.trans hf⟩⟩
 have ht:name (h.act)=some ts3:=(by exact ht)
 have hl3:ts3.length≤1:=name_le _ ht
 have HT3:=hdd ht
 obtain ⟨s3,HS3⟩: ∃z,Hid (s2.app ts3=z):=⟨_,rfl⟩
 have n3:s3.n≤s2.n+2*1:=by rw [←HS3.out,St.app_n];have:=hl3;omega
 have HW3:Hid (WR G (fun q=>P q∨q=i) b k s3 w3):=by rw [←HS3.out];exact h1
 have HB3:Hid (w3.heap[i]?=some (.cells ((Rs.icells ({{h with name:= []} with act:= []}:Rs.Item) c d n l).toArray) 49 (0,0))):=hb
 have HF3:Hid (Fr (fun q=> ¬P q) w w3):=HF2.out.trans hf
 clear hb ht
 clear h1 hf
 go_wp2_with fail
 refine (words_new HW3.out [[119,105,116,104,105,110]] _ rfl _ _ (by decide) (by show s3.n+2*1≤lim;omega)).mono ?_
 rintro e w4 ⟨rfl,h1,hf⟩
 have hl4:([[119,105,116,104,105,110]]:List Rs.Bytes).length≤1:=by decide
 obtain ⟨s4,HS4⟩: ∃z,Hid (s3.app [[119,105,116,104,105,110]]=z):=⟨_,rfl⟩
 have n4:s4.n≤s3.n+2*1:=by rw [←HS4.out,St.app_n];have:=hl4;omega
 have HW4:Hid (WR G (fun q=>P q∨q=i) b k s4 w4):=by rw [←HS4.out];exact h1
 have HB4:Hid (w4.heap[i]?=some (.cells ((Rs.icells ({{h with name:= []} with act:= []}:Rs.Item) c d n l).toArray) 49 (0,0))):=hf.blk HB3.out (fun e=>e (.inr rfl))
 have HF4:Hid (Fr (fun q=> ¬P q) w w4):=HF3.out.trans (hf.mono (fun q _ e e2=>e (.inl e2)))
 clear h1 hf
 go_wp2_with fail
 refine (spanW_any HW4.out HI.out HG.out HB4.out (by constructor<;>first|exact HO.out.name|exact HO.out.of_|exact HO.out.act|exact HO.out.by_|exact HO.out.til|exact HO.out.unit|exact HO.out.sum|exact HO.out.give|exact HO.out.to_|exact HO.out.wn|exact HO.out.gn|exact left_len HO.out.wn|exact left_len HO.out.gn|exact HO.out.conds|exact HO.out.names|exact Nat.zero_le _) (by omega)).mono ?_
 rintro e w5 (⟨ht,rfl,hf⟩|⟨ts5,ht,rfl,⟨h1,hb⟩,hf⟩)
 ·have ht:span h.within=none:=(by exact ht)
  exact ⟨rfl,.inl ⟨(by show watch h=none;unfold watch;rw [HT1.out,HT3.out,ht]<;>rfl),rfl,HF4.out.trans hf⟩⟩
 have ht:span h.within=some ts5:=(by exact ht)
 have hl5:ts5.length≤4:=span_le _ ht
 have HT5:=hdd ht
 obtain ⟨s5,HS5⟩: ∃z,Hid (s4.app ts5=z):=⟨_,rfl⟩
 have n5:s5.n≤s4.n+2*4:=by rw [←HS5.out,St.app_n];have:=hl5;omega
 have HW5:Hid (WR G (fun q=>P q∨q=i) b k s5 w5):=by rw [←HS5.out];exact h1
 have HB5:Hid (w5.heap[i]?=some (.cells ((Rs.icells ({{{h with name:= []} with act:= []} with within:=spanLeft h.within}:Rs.Item) c d n l).toArray) 49 (0,0))):=hb
 have HF5:Hid (Fr (fun q=> ¬P q) w w5):=HF4.out.trans hf
 clear hb ht
 clear h1 hf
 go_wp2_with fail
 refine (circ_any HW5.out HI.out HG.out HB5.out (by constructor<;>first|exact HO.out.name|exact HO.out.of_|exact HO.out.act|exact HO.out.by_|exact HO.out.til|exact HO.out.unit|exact HO.out.sum|exact HO.out.give|exact HO.out.to_|exact HO.out.wn|exact HO.out.gn|exact left_len HO.out.wn|exact left_len HO.out.gn|exact HO.out.conds|exact HO.out.names|exact Nat.zero_le _) (HR.out.fr HF5.out (fun q hq e=>e hq)) (by show _+6*h.conds.length+40≤lim;omega)).mono ?_
 rintro e w6 (⟨ht,rfl,hf⟩|⟨ts6,ht,rfl,⟨h1,hb⟩,hf⟩)
 ·have ht:circ h=none:=(by exact ht)
  exact ⟨rfl,.inl ⟨(by show watch h=none;unfold watch;rw [HT1.out,HT3.out,HT5.out,ht]<;>rfl),rfl,HF5.out.trans hf⟩⟩
 have ht:circ h=some ts6:=(by exact ht)
 have hl6:ts6.length≤(3*h.conds.length+5):=circ_le _ ht
 have HT6:=hdd ht
 obtain ⟨s6,HS6⟩: ∃z,Hid (s5.app ts6=z):=⟨_,rfl⟩
 have n6:s6.n≤s5.n+2*(3*h.conds.length+5):=by rw [←HS6.out,St.app_n];have:=hl6;omega
 have HW6:Hid (WR G (fun q=>P q∨q=i) b k s6 w6):=by rw [←HS6.out];exact h1
 have HB6:Hid (w6.heap[i]?=some (.cells ((Rs.icells (circLeft ({{{h with name:= []} with act:= []} with within:=spanLeft h.within}):Rs.Item) (.slice none 0 0) d n l).toArray) 49 (0,0))):=hb
 have HF6:Hid (Fr (fun q=> ¬P q) w w6):=HF5.out.trans hf
 clear hb ht
 clear h1 hf
 go_wp2_with fail
 refine (words_new HW6.out [[59]] _ rfl _ _ (by decide) (by show s6.n+2*1≤lim;omega)).mono ?_
 rintro e w7 ⟨rfl,h1,hf⟩
 have hl7:([[59]]:List Rs.Bytes).length≤1:=by decide
 obtain ⟨s7,HS7⟩: ∃z,Hid (s6.app [[59]]=z):=⟨_,rfl⟩
 have n7:s7.n≤s6.n+2*1:=by rw [←HS7.out,St.app_n];have:=hl7;omega
 have HW7:Hid (WR G (fun q=>P q∨q=i) b k s7 w7):=by rw [←HS7.out];exact h1
 have HB7:Hid (w7.heap[i]?=some (.cells ((Rs.icells (circLeft ({{{h with name:= []} with act:= []} with within:=spanLeft h.within}):Rs.Item) (.slice none 0 0) d n l).toArray) 49 (0,0))):=hf.blk HB6.out (fun e=>e (.inr rfl))
 have HF7:Hid (Fr (fun q=> ¬P q) w w7):=HF6.out.trans (hf.mono (fun q _ e e2=>e (.inl e2)))
 clear h1 hf
 go_wp2_with fail
 first|go_end0|refine bodyPost_ret (results_none rfl _ _ _) rfl ?_
 exact .inr ⟨ts1++([[58]]++(ts3++([[119,105,116,104,105,110]]++(ts5++(ts6++([[59]])))))),(by show watch h=some _;unfold watch;rw [HT1.out,HT3.out,HT5.out,HT6.out]<;>(first|rfl|simp [cat,ok,natureT,semi])),rfl,⟨(by rw [←St.app_app,HS1.out,←St.app_app,HS2.out,←St.app_app,HS3.out,←St.app_app,HS4.out,←St.app_app,HS5.out,←St.app_app,HS6.out,HS7.out];exact HW7.out),HB7.out⟩,HF7.out⟩
theorem incl_any {G:Nat} {P:Nat→Prop} {b:Nat} {k:Value} {s:St} {w:World} {i:Nat} {h:Rs.Item} {c d n l:Value} (hw:WR G (fun q=>P q∨q=i) b k s w) (hi: ¬P i) (hG: ∀q,q<G→P q) (hb:w.heap[i]?=some (.cells (Rs.icells h c d n l).toArray 49 (0,0))) (ho:Ok h) (hn:s.n+(4*h.names.length+100)≤lim) (hr:RowB P w n 1 (h.names.map fun x=> [sv x])):
  Calls Tryz.prog 37 #[.pointer (some ⟨b,0,none⟩),.pointer (some ⟨i,0,none⟩)] w (Out P (incl h) (fun ts w'=>WR G (fun q=>P q∨q=i) b k (s.app ts) w'∧w'.heap[i]?=some (.cells ((Rs.icells ({h with of_:= [],name:= [],names:= []}:Rs.Item) c d (.slice none 0 0) l).toArray) 49 (0,0))) w):=by
 have HW0:=hdd hw;have HI:=hdd hi;have HG:=hdd hG;have HB0:=hdd hb;have HO:=hdd ho
 have HF0:Hid (Fr (fun q=> ¬P q) w w):=Fr.refl _ _
 clear hw hi hG hb ho
 have HR:=hdd hr
 clear hr
 go_enter Tryz.func37,Tryz.ntmps37
 go_wp2_with fail
 refine (words_new HW0.out [[105,110,99,108,117,100,101]] _ rfl _ _ (by decide) (by show s.n+2*1≤lim;omega)).mono ?_
 rintro e w1 ⟨rfl,h1,hf⟩
 have hl1:([[105,110,99,108,117,100,101]]:List Rs.Bytes).length≤1:=by decide
 obtain ⟨s1,HS1⟩: ∃z,Hid (s.app [[105,110,99,108,117,100,101]]=z):=⟨_,rfl⟩
 have n1:s1.n≤s.n+2*1:=by rw [←HS1.out,St.app_n];have:=hl1;omega
 have HW1:Hid (WR G (fun q=>P q∨q=i) b k s1 w1):=by rw [←HS1.out];exact h1
 have HB1:Hid (w1.heap[i]?=some (.cells ((Rs.icells (h:Rs.Item) c d n l).toArray) 49 (0,0))):=hf.blk HB0.out (fun e=>e (.inr rfl))
 have HF1:Hid (Fr (fun q=> ¬P q) w w1):=HF0.out.trans (hf.mono (fun q _ e e2=>e (.inl e2)))
 clear h1 hf
 go_wp2_with fail
 refine (name_any HW1.out HI.out HG.out (h.of_) HB1.out rfl (by exact HO.out.of_) (by omega)).mono ?_
 rintro e w2 (⟨ht,rfl,hf⟩|⟨ts2,ht,rfl,⟨h1,hb⟩,hf⟩)
 ·have ht:name (h.of_)=none:=(by exact ht)
  exact ⟨rfl,.inl ⟨(by show incl h=none;unfold incl;rw [ht]<;>rfl),rfl,HF1.out.trans hf⟩⟩
 have ht:name (h.of_)=some ts2:=(by exact ht)
 have hl2:ts2.length≤1:=name_le _ ht
 have HT2:=hdd ht
 obtain ⟨s2,HS2⟩: ∃z,Hid (s1.app ts2=z):=⟨_,rfl⟩
 have n2:s2.n≤s1.n+2*1:=by rw [←HS2.out,St.app_n];have:=hl2;omega
 have HW2:Hid (WR G (fun q=>P q∨q=i) b k s2 w2):=by rw [←HS2.out];exact h1
 have HB2:Hid (w2.heap[i]?=some (.cells ((Rs.icells ({h with of_:= []}:Rs.Item) c d n l).toArray) 49 (0,0))):=hb
 have HF2:Hid (Fr (fun q=> ¬P q) w w2):=HF1.out.trans hf
 clear hb ht
 clear h1 hf
 go_wp2_with fail
 refine (words_new HW2.out [[97,115]] _ rfl _ _ (by decide) (by show s2.n+2*1≤lim;omega)).mono ?_
 rintro e w3 ⟨rfl,h1,hf⟩
 have hl3:([[97,115]]:List Rs.Bytes).length≤1:=by decide
 obtain ⟨s3,HS3⟩: ∃z,Hid (s2.app [[97,115]]=z):=⟨_,rfl⟩
 have n3:s3.n≤s2.n+2*1:=by rw [←HS3.out,St.app_n];have:=hl3;omega
 have HW3:Hid (WR G (fun q=>P q∨q=i) b k s3 w3):=by rw [←HS3.out];exact h1
 have HB3:Hid (w3.heap[i]?=some (.cells ((Rs.icells ({h with of_:= []}:Rs.Item) c d n l).toArray) 49 (0,0))):=hf.blk HB2.out (fun e=>e (.inr rfl))
 have HF3:Hid (Fr (fun q=> ¬P q) w w3):=HF2.out.trans (hf.mono (fun q _ e e2=>e (.inl e2)))
 clear h1 hf
 go_wp2_with fail
 refine (name_any HW3.out HI.out HG.out (h.name) HB3.out rfl (by exact HO.out.name) (by omega)).mono ?_
 rintro e w4 (⟨ht,rfl,hf⟩|⟨ts4,ht,rfl,⟨h1,hb⟩,hf⟩)
 ·have ht:name (h.name)=none:=(by exact ht)
  exact ⟨rfl,.inl ⟨(by show incl h=none;unfold incl;rw [HT2.out,ht]<;>rfl),rfl,HF3.out.trans hf⟩⟩
 have ht:name (h.name)=some ts4:=(by exact ht)
 have hl4:ts4.length≤1:=name_le _ ht
 have HT4:=hdd ht
 obtain ⟨s4,HS4⟩: ∃z,Hid (s3.app ts4=z):=⟨_,rfl⟩
 have n4:s4.n≤s3.n+2*1:=by rw [←HS4.out,St.app_n];have:=hl4;omega
 have HW4:Hid (WR G (fun q=>P q∨q=i) b k s4 w4):=by rw [←HS4.out];exact h1
 have HB4:Hid (w4.heap[i]?=some (.cells ((Rs.icells ({{h with of_:= []} with name:= []}:Rs.Item) c d n l).toArray) 49 (0,0))):=hb
 have HF4:Hid (Fr (fun q=> ¬P q) w w4):=HF3.out.trans hf
 clear hb ht
 clear h1 hf
 go_wp2_with fail
 refine (names_any HW4.out HI.out HG.out HB4.out (by constructor<;>first|exact HO.out.name|exact HO.out.of_|exact HO.out.act|exact HO.out.by_|exact HO.out.til|exact HO.out.unit|exact HO.out.sum|exact HO.out.give|exact HO.out.to_|exact HO.out.wn|exact HO.out.gn|exact left_len HO.out.wn|exact left_len HO.out.gn|exact HO.out.conds|exact HO.out.names|exact Nat.zero_le _) (HR.out.fr HF4.out (fun q hq e=>e hq)) (by show _+4*h.names.length+20≤lim;omega)).mono ?_
 rintro e w5 (⟨ht,rfl,hf⟩|⟨ts5,ht,rfl,⟨h1,hb⟩,hf⟩)
 ·have ht:namesT h.names=none:=(by exact ht)
  exact ⟨rfl,.inl ⟨(by show incl h=none;unfold incl;rw [HT2.out,HT4.out,ht]<;>rfl),rfl,HF4.out.trans hf⟩⟩
 have ht:namesT h.names=some ts5:=(by exact ht)
 have hl5:ts5.length≤(2*h.names.length+2):=names_le _ ht
 have HT5:=hdd ht
 obtain ⟨s5,HS5⟩: ∃z,Hid (s4.app ts5=z):=⟨_,rfl⟩
 have n5:s5.n≤s4.n+2*(2*h.names.length+2):=by rw [←HS5.out,St.app_n];have:=hl5;omega
 have HW5:Hid (WR G (fun q=>P q∨q=i) b k s5 w5):=by rw [←HS5.out];exact h1
 have HB5:Hid (w5.heap[i]?=some (.cells ((Rs.icells ({{{h with of_:= []} with name:= []} with names:= []}:Rs.Item) c d (.slice none 0 0) l).toArray) 49 (0,0))):=hb
 have HF5:Hid (Fr (fun q=> ¬P q) w w5):=HF4.out.trans hf
 clear hb ht
 clear h1 hf
 go_wp2_with fail
 refine (words_new HW5.out [[59]] _ rfl _ _ (by decide) (by show s5.n+2*1≤lim;omega)).mono ?_
 rintro e w6 ⟨rfl,h1,hf⟩
 have hl6:([[59]]:List Rs.Bytes).length≤1:=by decide
 obtain ⟨s6,HS6⟩: ∃z,Hid (s5.app [[59]]=z):=⟨_,rfl⟩
 have n6:s6.n≤s5.n+2*1:=by rw [←HS6.out,St.app_n];have:=hl6;omega
 have HW6:Hid (WR G (fun q=>P q∨q=i) b k s6 w6):=by rw [←HS6.out];exact h1
 have HB6:Hid (w6.heap[i]?=some (.cells ((Rs.icells ({{{h with of_:= []} with name:= []} with names:= []}:Rs.Item) c d (.slice none 0 0) l).toArray) 49 (0,0))):=hf.blk HB5.out (fun e=>e (.inr rfl))
 have HF6:Hid (Fr (fun q=> ¬P q) w w6):=HF5.out.trans (hf.mono (fun q _ e e2=>e (.inl e2)))
 clear h1 hf
 go_wp2_with fail
 first|go_end0|refine bodyPost_ret (results_none rfl _ _ _) rfl ?_
 exact .inr ⟨[[105,110,99,108,117,100,101]]++(ts2++([[97,115]]++(ts4++(ts5++([[59]]))))),(by show incl h=some _;unfold incl;rw [HT2.out,HT4.out,HT5.out]<;>(first|rfl|simp [cat,ok,natureT,semi])),rfl,⟨(by rw [←St.app_app,HS1.out,←St.app_app,HS2.out,←St.app_app,HS3.out,←St.app_app,HS4.out,←St.app_app,HS5.out,HS6.out];exact HW6.out),HB6.out⟩,HF6.out⟩
end Go.Proofs.YtfficindoecpfaaGreatDoor.Pt
