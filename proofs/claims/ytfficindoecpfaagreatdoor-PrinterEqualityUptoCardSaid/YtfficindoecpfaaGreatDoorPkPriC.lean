/-
  The printer's weekends and holidays. The printer's holidays. The printer's tables of writers: maps with constant keys.
-/
import Derived.Test.YtfficindoecpfaaGreatDoorPriDuty
import Derived.Laws.EntriesVeiled
import Derived.WideMake
set_option maxHeartbeats 64000000
set_option maxRecDepth 100000
set_option linter.unusedVariables false
set_option linter.unusedSimpArgs false
namespace Go.Proofs.YtfficindoecpfaaGreatDoor.Pt
open Go.RowKit Mem Vw
open Ic (RowB)
def dn (i:Nat):T:=ok [weekNames.getD i []]
def dsTo (l:List Bool) (j:Nat):List Nat:=(List.range j).filter fun i=>l.getD i false
theorem ds_no {l:List Bool} {j:Nat} (h:l.getD j false=false):dsTo l (j+1)=dsTo l j:=by
 unfold dsTo
 rw [List.range_succ,List.filter_append]
 have: [j].filter (fun i=>l.getD i false)= []:=by rw [List.filter_cons];simp only [h];rfl
 rw [this,List.append_nil]
theorem ds_yes {l:List Bool} {j:Nat} (h:l.getD j false=true):dsTo l (j+1)=dsTo l j++ [j]:=by
 unfold dsTo
 rw [List.range_succ,List.filter_append]
 have: [j].filter (fun i=>l.getD i false)= [j]:=by rw [List.filter_cons];simp only [h];rfl
 rw [this]
theorem ds_first {l:List Bool} {j:Nat} {ts:List Rs.Bytes} (h:l.getD j false=true) (h0:dsTo l j= []) (ht:commas dn true (dsTo l j)=some ts):commas dn true (dsTo l (j+1))=some (ts++ [weekNames.getD j []]):=by
 rw [ds_yes h,commas_app,ht,h0]
 simp [commas,cat,ok,dn]
theorem ds_next {l:List Bool} {j:Nat} {ts:List Rs.Bytes} (h:l.getD j false=true) (h0:(dsTo l j).isEmpty=false) (ht:commas dn true (dsTo l j)=some ts):commas dn true (dsTo l (j+1))=some (ts++([[44]]++ [weekNames.getD j []])):=by
 rw [ds_yes h,commas_app,ht,h0]
 simp [commas,cat,ok,dn]
theorem week_ok {l:List Bool} {ts:List Rs.Bytes} (h0:(dsTo l 7).isEmpty=false) (ht:commas dn true (dsTo l 7)=some ts):weekT l=some ts:=by
 unfold weekT
 rw [if_neg (show ¬weekDays l= [] from fun e=>by have e:dsTo l 7= []:=e;rw [e] at h0;cases h0)]
 exact ht
theorem week_no {l:List Bool} (h0:(dsTo l 7).isEmpty=true):weekT l=none:=by
 unfold weekT
 exact if_pos (List.isEmpty_iff.1 h0)
theorem name_at: ∀j,j<7→weekNames[j]?=some (weekNames.getD j [])∧(weekNames.getD j []).length≤31:=by decide
theorem day_at (l:List Bool) (j:Nat) (hj:j<7):([l.getD 0 false,l.getD 1 false,l.getD 2 false,l.getD 3 false,l.getD 4 false,l.getD 5 false,l.getD 6 false]:List Bool).getD j false=l.getD j false:=by
 obtain h|h|h|h|h|h|h:j=0∨j=1∨j=2∨j=3∨j=4∨j=5∨j=6:=by omega
 all_goals (subst h;rfl)
theorem run_day (a0 a1 a2 a3 a4 a5 a6:Bool) (j:Nat) (hj:j<7) (w:World):(Instr.index 45 (.agg #[.bool a0,.bool a1,.bool a2,.bool a3,.bool a4,.bool a5,.bool a6]) (.int .i64 (j:Int))).run Tryz.prog w= .ok (.bool (([a0,a1,a2,a3,a4,a5,a6]:List Bool).getD j false)) w:=by
 obtain h|h|h|h|h|h|h:j=0∨j=1∨j=2∨j=3∨j=4∨j=5∨j=6:=by omega
 all_goals (subst h;kernel_rfl)
theorem weekend_any {G:Nat} {P:Nat→Prop} {b:Nat} {k:Value} {s:St} {w:World} {i:Nat} {h:Rs.Item} {c d n l:Value} (hw:WQ P i G b k s w) (hi: ¬P i) (hG: ∀q,q<G→P q) (hb:w.heap[i]?=some (.cells (Rs.icells h c d n l).toArray 49 (0,0))) (ho:Ok h) (hn:s.n+60≤lim):
  Calls Tryz.prog 81 #[.pointer (some ⟨b,0,none⟩),.pointer (some ⟨i,0,none⟩)] w (Out P (weekend h) (fun ts w'=>WQ P i G b k (s.app ts) w'∧w'.heap[i]?=some (.cells (Rs.icells {h with days:=week0} c d n l).toArray 49 (0,0))) w):=by
 have HW0:=hdd hw;have HI:=hdd hi;have HG:=hdd hG;have HB0:=hdd hb
 clear hw hi hG hb ho
 go_enter Tryz.func81,Tryz.ntmps81
 go_wp2_with fail
 refine (jq3 HW0.o [[119,101,101,107,101,110,100]] _ rfl _ _ (by decide) (by show s.n+2*1≤lim;omega)).mono ?_
 rintro e w1 ⟨rfl,h1,hf⟩
 obtain ⟨s1,HS1⟩: ∃z,Hid (s.app [[119,101,101,107,101,110,100]]=z):=⟨_,rfl⟩
 have n1:s1.n≤s.n+2:=by rw [←HS1.o,St.app_n];exact Nat.le_refl _
 have HW1:Hid (WQ P i G b k (s1.app []) w1):=by rw [←HS1.o];exact h1
 have HB1:Hid (w1.heap[i]?=some (.cells (Rs.icells h c d n l).toArray 49 (0,0))):=hf.blk HB0.o (fun e=>e (.inr rfl))
 have HF1:Hid (FN P w w1):=hf.mono (fun q _ e e2=>e (.inl e2))
 have HA0:Hid (commas dn true (dsTo h.days 0)=some []):=rfl
 obtain ⟨a0,HA20⟩: ∃z,Hid (h.days.getD 0 false=z):=⟨_,rfl⟩
 have c23:w1.cell? ⟨i,23,none⟩=some (.bool a0):=(jq0 HB1.o 23).trans (by show some (Value.bool (h.days.getD 0 false))=_;rw [HA20.o])
 obtain ⟨a1,HA21⟩: ∃z,Hid (h.days.getD 1 false=z):=⟨_,rfl⟩
 have c24:w1.cell? ⟨i,24,none⟩=some (.bool a1):=(jq0 HB1.o 24).trans (by show some (Value.bool (h.days.getD 1 false))=_;rw [HA21.o])
 obtain ⟨a2,HA22⟩: ∃z,Hid (h.days.getD 2 false=z):=⟨_,rfl⟩
 have c25:w1.cell? ⟨i,25,none⟩=some (.bool a2):=(jq0 HB1.o 25).trans (by show some (Value.bool (h.days.getD 2 false))=_;rw [HA22.o])
 obtain ⟨a3,HA23⟩: ∃z,Hid (h.days.getD 3 false=z):=⟨_,rfl⟩
 have c26:w1.cell? ⟨i,26,none⟩=some (.bool a3):=(jq0 HB1.o 26).trans (by show some (Value.bool (h.days.getD 3 false))=_;rw [HA23.o])
 obtain ⟨a4,HA24⟩: ∃z,Hid (h.days.getD 4 false=z):=⟨_,rfl⟩
 have c27:w1.cell? ⟨i,27,none⟩=some (.bool a4):=(jq0 HB1.o 27).trans (by show some (Value.bool (h.days.getD 4 false))=_;rw [HA24.o])
 obtain ⟨a5,HA25⟩: ∃z,Hid (h.days.getD 5 false=z):=⟨_,rfl⟩
 have c28:w1.cell? ⟨i,28,none⟩=some (.bool a5):=(jq0 HB1.o 28).trans (by show some (Value.bool (h.days.getD 5 false))=_;rw [HA25.o])
 obtain ⟨a6,HA26⟩: ∃z,Hid (h.days.getD 6 false=z):=⟨_,rfl⟩
 have c29:w1.cell? ⟨i,29,none⟩=some (.bool a6):=(jq0 HB1.o 29).trans (by show some (Value.bool (h.days.getD 6 false))=_;rw [HA26.o])
 clear h1 hf
 go_wp2_with fail
 go_loopw [4,14] (fun z q wr=> ∃(j:Nat) (ts:List Rs.Bytes),z= .bool (!(dsTo h.days j).isEmpty)∧q= .int .i64 j∧j≤7∧Hid (commas dn true (dsTo h.days j)=some ts)∧Hid (ts.length≤2*j)∧Hid (WQ P i G b k (s1.app ts) wr)∧Hid (wr.heap[i]?=some (.cells (Rs.icells h c d n l).toArray 49 (0,0)))∧Hid (FN P w wr)) (fun z q _=>7-(intOf q).toNat)
 case atStart=>exact ⟨0,[],rfl,rfl,Nat.zero_le _,HA0,Nat.zero_le _,HW1,HB1,HF1⟩
 case round=>
  clear HA0 HW1 HB1 HF1 c23 c24 c25 c26 c27 c28 c29
  obtain ⟨j,ts,rfl,rfl,hj,HA,HTL,HW,HB,HF⟩:=hrel
  have i1:(0:Int)≤(j:Int):=Int.natCast_nonneg _
  by_cases hlt:j<7
  ·have i2:(j:Int)<7:=by omega
   have hday:=run_day a0 a1 a2 a3 a4 a5 a6 j hlt
   have hdl:=day_at h.days j hlt
   rw [HA20.o,HA21.o,HA22.o,HA23.o,HA24.o,HA25.o,HA26.o] at hdl
   rw [hdl] at hday
   clear hdl
   have HWN:Hid (weekNames[j]?=some (weekNames.getD j [])∧(weekNames.getD j []).length≤31):=name_at j hlt
   have cg:wr.cell? ⟨1,j,none⟩=some (.string ⟨(weekNames.getD j []).toArray⟩):=HW.o.env.wk j _ HWN.o.1
   have HNN:Hid ((s1.app ts).n≤s.n+2+4*j):=by show _≤_;rw [St.app_n];have:=HTL.o;omega
   have HLT:Hid (j<7):=hlt
   obtain ⟨emp,HE⟩: ∃z,Hid ((dsTo h.days j).isEmpty=z):=⟨_,rfl⟩
   rw [HE.o]
   obtain ⟨dj,HD⟩: ∃z,Hid (h.days.getD j false=z):=⟨_,rfl⟩
   rw [HD.o] at hday
   clear hlt
   cases dj with
   |false=>
    have HAN:Hid (commas dn true (dsTo h.days (j+1))=some ts):=by rw [ds_no HD.o];exact HA.o
    have HTN:Hid (ts.length≤2*(j+1)):=by show _≤_;have:=HTL.o;omega
    have HSP:Hid ((!(dsTo h.days (j+1)).isEmpty)=!emp):=by show _=_;rw [ds_no HD.o,HE.o]
    go_wp2_with fail
    go_roundw
    case rel=>exact ⟨j+1,ts,by rw [HSP.o],by go_num,HLT.o,HAN,HTN,HW,HB,HF⟩
    case measure=>have:=HLT.o;simp [intOf];omega
   |true=>
    cases emp with
    |true=>
     go_wp2_with fail
     refine (jq3 HW.o [weekNames.getD j []] _ rfl _ _ (fun y hy=>by rw [List.mem_singleton.1 hy];exact HWN.o.2) (by have:=HNN.o;have:=HLT.o;show (s1.app ts).n+2*1≤lim;omega)).mono ?_
     rintro e w4 ⟨rfl,h1,hf⟩
     have HAN:Hid (commas dn true (dsTo h.days (j+1))=some (ts++ [weekNames.getD j []])):=ds_first HD.o (List.isEmpty_iff.1 HE.o) HA.o
     have HTN:Hid ((ts++ [weekNames.getD j []]).length≤2*(j+1)):=by show _≤_;simp only [List.length_append,List.length_cons,List.length_nil];have:=HTL.o;omega
     have HWX:Hid (WQ P i G b k (s1.app (ts++ [weekNames.getD j []])) w4):=by rw [←St.app_app];exact h1
     have HBN:Hid (w4.heap[i]?=some (.cells (Rs.icells h c d n l).toArray 49 (0,0))):=hf.blk HB.o (fun e=>e (.inr rfl))
     have HFN:Hid (FN P w w4):=HF.o.trans (hf.mono (fun q _ e e2=>e (.inl e2)))
     have HSP:Hid ((!(dsTo h.days (j+1)).isEmpty)=true):=by show _=_;rw [ds_yes HD.o];simp
     clear h1 hf
     go_wp2_with fail
     go_roundw
     case rel=>exact ⟨j+1,_,by rw [HSP.o],by go_num,HLT.o,HAN,HTN,HWX,HBN,HFN⟩
     case measure=>have:=HLT.o;simp [intOf];omega
    |false=>
     go_wp2_with fail
     refine (jq3 HW.o [[44]] _ rfl _ _ (by decide) (by have:=HNN.o;have:=HLT.o;show (s1.app ts).n+2*1≤lim;omega)).mono ?_
     rintro e w3 ⟨rfl,h1,hf⟩
     have HW3:=hdd h1
     have HB3:Hid (w3.heap[i]?=some (.cells (Rs.icells h c d n l).toArray 49 (0,0))):=hf.blk HB.o (fun e=>e (.inr rfl))
     have HF3:Hid (FN P w w3):=HF.o.trans (hf.mono (fun q _ e e2=>e (.inl e2)))
     have HNC:Hid (((s1.app ts).app [[44]]).n=(s1.app ts).n+2):=by show _=_;rw [St.app_n];rfl
     have cg:w3.cell? ⟨1,j,none⟩=some (.string ⟨(weekNames.getD j []).toArray⟩):=HW3.o.env.wk j _ HWN.o.1
     clear h1 hf
     go_wp2_with fail
     refine (jq3 HW3.o [weekNames.getD j []] _ rfl _ _ (fun y hy=>by rw [List.mem_singleton.1 hy];exact HWN.o.2) (by have:=HNN.o;have:=HNC.o;have:=HLT.o;show ((s1.app ts).app [[44]]).n+2*1≤lim;omega)).mono ?_
     rintro e w4 ⟨rfl,h1,hf⟩
     have HAN:Hid (commas dn true (dsTo h.days (j+1))=some (ts++([[44]]++ [weekNames.getD j []]))):=ds_next HD.o HE.o HA.o
     have HTN:Hid ((ts++([[44]]++ [weekNames.getD j []])).length≤2*(j+1)):=by show _≤_;simp only [List.length_append,List.length_cons,List.length_nil];have:=HTL.o;omega
     have HWX:Hid (WQ P i G b k (s1.app (ts++([[44]]++ [weekNames.getD j []]))) w4):=by rw [←St.app_app,←St.app_app];exact h1
     have HBN:Hid (w4.heap[i]?=some (.cells (Rs.icells h c d n l).toArray 49 (0,0))):=hf.blk HB3.o (fun e=>e (.inr rfl))
     have HFN:Hid (FN P w w4):=HF3.o.trans (hf.mono (fun q _ e e2=>e (.inl e2)))
     have HSP:Hid ((!(dsTo h.days (j+1)).isEmpty)=true):=by show _=_;rw [ds_yes HD.o];simp
     clear h1 hf
     go_wp2_with fail
     go_roundw
     case rel=>exact ⟨j+1,_,by rw [HSP.o],by go_num,HLT.o,HAN,HTN,HWX,HBN,HFN⟩
     case measure=>have:=HLT.o;simp [intOf];omega
  ·obtain rfl:j=7:=by omega
   cases hemp:(dsTo h.days 7).isEmpty with
   |true=>
    have HN:Hid (weekend h=none):=by show _=_;unfold weekend;rw [week_no hemp];rfl
    clear hemp
    go_wp2_with fail
    exact ⟨rfl,.inl ⟨HN.o,rfl,HF.o⟩⟩
   |false=>
    have HT50:=hdd (week_ok hemp HA.o)
    obtain ⟨ts50,HTT⟩: ∃z,Hid (ts=z):=⟨_,rfl⟩
    rw [HTT.o] at HT50
    obtain ⟨s50,HS50⟩: ∃z,Hid (s1.app ts50=z):=⟨_,rfl⟩
    have HS49:=HS1
    have n50:s50.n≤s.n+30:=by rw [←HS50.o,St.app_n,←HTT.o];have:=HTL.o;omega
    obtain ⟨w50,hw50⟩: ∃u,wr=u:=⟨_,rfl⟩
    have HW50:Hid (WQ P i G b k s50 w50):=by rw [←HS50.o,←HTT.o,←hw50];exact HW.o
    have HB50:Hid (w50.heap[i]?=some (.cells (Rs.icells h c d n l).toArray 49 (0,0))):=by rw [←hw50];exact HB.o
    have HF50:Hid (FN P w w50):=by rw [←hw50];exact HF.o
    rw [hw50]
    clear hw50 hemp hj i1 HW HB HF
    have c61:w50.cell? ⟨i,23,none⟩=some (.bool (h.days.getD 0 false)):=jq0 HB50.o _
    have f61:w50.frozen? ⟨i,23,none⟩=false:=jq1 HB50.o _
    obtain ⟨w61,hw61⟩: ∃u,w50.setCell ⟨i,23,none⟩ (.bool false)=u:=⟨_,rfl⟩
    have hf:Fr (fun q=>q=i) w50 w61:=by rw [←hw61];exact (Fr.refl (fun q=>q=i) w50).setb 23 _
    have HB61:Hid (w61.heap[i]?=some (OI {h with days:= [false,h.days.getD 1 false,h.days.getD 2 false,h.days.getD 3 false,h.days.getD 4 false,h.days.getD 5 false,h.days.getD 6 false]} c d n l)):=by rw [←hw61];exact jq9 HB50.o 23 _
    have HW61:Hid (WQ P i G b k s50 w61):=HW50.o.fr hf (fun q e=>⟨.inr e,by have e:q=i:=e;subst e;exact Nat.le_of_not_lt fun h=>HI.o (HG.o _ h)⟩)
    have HF61:Hid (FN P w w61):=HF50.o.trans (hf.mono (fun q _ e e2=>by have e:q=i:=e;subst e;exact HI.o e2))
    clear hf
    have s61_:True:=trivial
    obtain ⟨s61,HS61⟩: ∃z,Hid (s50.app []=z):=⟨_,rfl⟩
    have n61:s61.n≤s50.n:=by rw [←HS61.o];exact Nat.le_refl _
    have HW61:Hid (WQ P i G b k s61 w61):=by rw [←HS61.o];exact HW61.o
    have c62:w61.cell? ⟨i,24,none⟩=some (.bool (h.days.getD 1 false)):=jq0 HB61.o _
    have f62:w61.frozen? ⟨i,24,none⟩=false:=jq1 HB61.o _
    obtain ⟨w62,hw62⟩: ∃u,w61.setCell ⟨i,24,none⟩ (.bool false)=u:=⟨_,rfl⟩
    have hf:Fr (fun q=>q=i) w61 w62:=by rw [←hw62];exact (Fr.refl (fun q=>q=i) w61).setb 24 _
    have HB62:Hid (w62.heap[i]?=some (OI {{h with days:= [false,h.days.getD 1 false,h.days.getD 2 false,h.days.getD 3 false,h.days.getD 4 false,h.days.getD 5 false,h.days.getD 6 false]} with days:= [false,false,h.days.getD 2 false,h.days.getD 3 false,h.days.getD 4 false,h.days.getD 5 false,h.days.getD 6 false]} c d n l)):=by rw [←hw62];exact jq9 HB61.o 24 _
    have HW62:Hid (WQ P i G b k s61 w62):=HW61.o.fr hf (fun q e=>⟨.inr e,by have e:q=i:=e;subst e;exact Nat.le_of_not_lt fun h=>HI.o (HG.o _ h)⟩)
    have HF62:Hid (FN P w w62):=HF61.o.trans (hf.mono (fun q _ e e2=>by have e:q=i:=e;subst e;exact HI.o e2))
    clear hf
    have s62_:True:=trivial
    obtain ⟨s62,HS62⟩: ∃z,Hid (s61.app []=z):=⟨_,rfl⟩
    have n62:s62.n≤s61.n:=by rw [←HS62.o];exact Nat.le_refl _
    have HW62:Hid (WQ P i G b k s62 w62):=by rw [←HS62.o];exact HW62.o
    have c63:w62.cell? ⟨i,25,none⟩=some (.bool (h.days.getD 2 false)):=jq0 HB62.o _
    have f63:w62.frozen? ⟨i,25,none⟩=false:=jq1 HB62.o _
    obtain ⟨w63,hw63⟩: ∃u,w62.setCell ⟨i,25,none⟩ (.bool false)=u:=⟨_,rfl⟩
    have hf:Fr (fun q=>q=i) w62 w63:=by rw [←hw63];exact (Fr.refl (fun q=>q=i) w62).setb 25 _
    have HB63:Hid (w63.heap[i]?=some (OI {{{h with days:= [false,h.days.getD 1 false,h.days.getD 2 false,h.days.getD 3 false,h.days.getD 4 false,h.days.getD 5 false,h.days.getD 6 false]} with days:= [false,false,h.days.getD 2 false,h.days.getD 3 false,h.days.getD 4 false,h.days.getD 5 false,h.days.getD 6 false]} with days:= [false,false,false,h.days.getD 3 false,h.days.getD 4 false,h.days.getD 5 false,h.days.getD 6 false]} c d n l)):=by rw [←hw63];exact jq9 HB62.o 25 _
    have HW63:Hid (WQ P i G b k s62 w63):=HW62.o.fr hf (fun q e=>⟨.inr e,by have e:q=i:=e;subst e;exact Nat.le_of_not_lt fun h=>HI.o (HG.o _ h)⟩)
    have HF63:Hid (FN P w w63):=HF62.o.trans (hf.mono (fun q _ e e2=>by have e:q=i:=e;subst e;exact HI.o e2))
    clear hf
    have s63_:True:=trivial
    obtain ⟨s63,HS63⟩: ∃z,Hid (s62.app []=z):=⟨_,rfl⟩
    have n63:s63.n≤s62.n:=by rw [←HS63.o];exact Nat.le_refl _
    have HW63:Hid (WQ P i G b k s63 w63):=by rw [←HS63.o];exact HW63.o
    have c64:w63.cell? ⟨i,26,none⟩=some (.bool (h.days.getD 3 false)):=jq0 HB63.o _
    have f64:w63.frozen? ⟨i,26,none⟩=false:=jq1 HB63.o _
    obtain ⟨w64,hw64⟩: ∃u,w63.setCell ⟨i,26,none⟩ (.bool false)=u:=⟨_,rfl⟩
    have hf:Fr (fun q=>q=i) w63 w64:=by rw [←hw64];exact (Fr.refl (fun q=>q=i) w63).setb 26 _
    have HB64:Hid (w64.heap[i]?=some (OI {{{{h with days:= [false,h.days.getD 1 false,h.days.getD 2 false,h.days.getD 3 false,h.days.getD 4 false,h.days.getD 5 false,h.days.getD 6 false]} with days:= [false,false,h.days.getD 2 false,h.days.getD 3 false,h.days.getD 4 false,h.days.getD 5 false,h.days.getD 6 false]} with days:= [false,false,false,h.days.getD 3 false,h.days.getD 4 false,h.days.getD 5 false,h.days.getD 6 false]} with days:= [false,false,false,false,h.days.getD 4 false,h.days.getD 5 false,h.days.getD 6 false]} c d n l)):=by rw [←hw64];exact jq9 HB63.o 26 _
    have HW64:Hid (WQ P i G b k s63 w64):=HW63.o.fr hf (fun q e=>⟨.inr e,by have e:q=i:=e;subst e;exact Nat.le_of_not_lt fun h=>HI.o (HG.o _ h)⟩)
    have HF64:Hid (FN P w w64):=HF63.o.trans (hf.mono (fun q _ e e2=>by have e:q=i:=e;subst e;exact HI.o e2))
    clear hf
    have s64_:True:=trivial
    obtain ⟨s64,HS64⟩: ∃z,Hid (s63.app []=z):=⟨_,rfl⟩
    have n64:s64.n≤s63.n:=by rw [←HS64.o];exact Nat.le_refl _
    have HW64:Hid (WQ P i G b k s64 w64):=by rw [←HS64.o];exact HW64.o
    have c65:w64.cell? ⟨i,27,none⟩=some (.bool (h.days.getD 4 false)):=jq0 HB64.o _
    have f65:w64.frozen? ⟨i,27,none⟩=false:=jq1 HB64.o _
    obtain ⟨w65,hw65⟩: ∃u,w64.setCell ⟨i,27,none⟩ (.bool false)=u:=⟨_,rfl⟩
    have hf:Fr (fun q=>q=i) w64 w65:=by rw [←hw65];exact (Fr.refl (fun q=>q=i) w64).setb 27 _
    have HB65:Hid (w65.heap[i]?=some (OI {{{{{h with days:= [false,h.days.getD 1 false,h.days.getD 2 false,h.days.getD 3 false,h.days.getD 4 false,h.days.getD 5 false,h.days.getD 6 false]} with days:= [false,false,h.days.getD 2 false,h.days.getD 3 false,h.days.getD 4 false,h.days.getD 5 false,h.days.getD 6 false]} with days:= [false,false,false,h.days.getD 3 false,h.days.getD 4 false,h.days.getD 5 false,h.days.getD 6 false]} with days:= [false,false,false,false,h.days.getD 4 false,h.days.getD 5 false,h.days.getD 6 false]} with days:= [false,false,false,false,false,h.days.getD 5 false,h.days.getD 6 false]} c d n l)):=by rw [←hw65];exact jq9 HB64.o 27 _
    have HW65:Hid (WQ P i G b k s64 w65):=HW64.o.fr hf (fun q e=>⟨.inr e,by have e:q=i:=e;subst e;exact Nat.le_of_not_lt fun h=>HI.o (HG.o _ h)⟩)
    have HF65:Hid (FN P w w65):=HF64.o.trans (hf.mono (fun q _ e e2=>by have e:q=i:=e;subst e;exact HI.o e2))
    clear hf
    have s65_:True:=trivial
    obtain ⟨s65,HS65⟩: ∃z,Hid (s64.app []=z):=⟨_,rfl⟩
    have n65:s65.n≤s64.n:=by rw [←HS65.o];exact Nat.le_refl _
    have HW65:Hid (WQ P i G b k s65 w65):=by rw [←HS65.o];exact HW65.o
    have c66:w65.cell? ⟨i,28,none⟩=some (.bool (h.days.getD 5 false)):=jq0 HB65.o _
    have f66:w65.frozen? ⟨i,28,none⟩=false:=jq1 HB65.o _
    obtain ⟨w66,hw66⟩: ∃u,w65.setCell ⟨i,28,none⟩ (.bool false)=u:=⟨_,rfl⟩
    have hf:Fr (fun q=>q=i) w65 w66:=by rw [←hw66];exact (Fr.refl (fun q=>q=i) w65).setb 28 _
    have HB66:Hid (w66.heap[i]?=some (OI {{{{{{h with days:= [false,h.days.getD 1 false,h.days.getD 2 false,h.days.getD 3 false,h.days.getD 4 false,h.days.getD 5 false,h.days.getD 6 false]} with days:= [false,false,h.days.getD 2 false,h.days.getD 3 false,h.days.getD 4 false,h.days.getD 5 false,h.days.getD 6 false]} with days:= [false,false,false,h.days.getD 3 false,h.days.getD 4 false,h.days.getD 5 false,h.days.getD 6 false]} with days:= [false,false,false,false,h.days.getD 4 false,h.days.getD 5 false,h.days.getD 6 false]} with days:= [false,false,false,false,false,h.days.getD 5 false,h.days.getD 6 false]} with days:= [false,false,false,false,false,false,h.days.getD 6 false]} c d n l)):=by rw [←hw66];exact jq9 HB65.o 28 _
    have HW66:Hid (WQ P i G b k s65 w66):=HW65.o.fr hf (fun q e=>⟨.inr e,by have e:q=i:=e;subst e;exact Nat.le_of_not_lt fun h=>HI.o (HG.o _ h)⟩)
    have HF66:Hid (FN P w w66):=HF65.o.trans (hf.mono (fun q _ e e2=>by have e:q=i:=e;subst e;exact HI.o e2))
    clear hf
    have s66_:True:=trivial
    obtain ⟨s66,HS66⟩: ∃z,Hid (s65.app []=z):=⟨_,rfl⟩
    have n66:s66.n≤s65.n:=by rw [←HS66.o];exact Nat.le_refl _
    have HW66:Hid (WQ P i G b k s66 w66):=by rw [←HS66.o];exact HW66.o
    have c67:w66.cell? ⟨i,29,none⟩=some (.bool (h.days.getD 6 false)):=jq0 HB66.o _
    have f67:w66.frozen? ⟨i,29,none⟩=false:=jq1 HB66.o _
    obtain ⟨w67,hw67⟩: ∃u,w66.setCell ⟨i,29,none⟩ (.bool false)=u:=⟨_,rfl⟩
    have hf:Fr (fun q=>q=i) w66 w67:=by rw [←hw67];exact (Fr.refl (fun q=>q=i) w66).setb 29 _
    have HB67:Hid (w67.heap[i]?=some (OI {{{{{{{h with days:= [false,h.days.getD 1 false,h.days.getD 2 false,h.days.getD 3 false,h.days.getD 4 false,h.days.getD 5 false,h.days.getD 6 false]} with days:= [false,false,h.days.getD 2 false,h.days.getD 3 false,h.days.getD 4 false,h.days.getD 5 false,h.days.getD 6 false]} with days:= [false,false,false,h.days.getD 3 false,h.days.getD 4 false,h.days.getD 5 false,h.days.getD 6 false]} with days:= [false,false,false,false,h.days.getD 4 false,h.days.getD 5 false,h.days.getD 6 false]} with days:= [false,false,false,false,false,h.days.getD 5 false,h.days.getD 6 false]} with days:= [false,false,false,false,false,false,h.days.getD 6 false]} with days:= [false,false,false,false,false,false,false]} c d n l)):=by rw [←hw67];exact jq9 HB66.o 29 _
    have HW67:Hid (WQ P i G b k s66 w67):=HW66.o.fr hf (fun q e=>⟨.inr e,by have e:q=i:=e;subst e;exact Nat.le_of_not_lt fun h=>HI.o (HG.o _ h)⟩)
    have HF67:Hid (FN P w w67):=HF66.o.trans (hf.mono (fun q _ e e2=>by have e:q=i:=e;subst e;exact HI.o e2))
    clear hf
    have s67_:True:=trivial
    obtain ⟨s67,HS67⟩: ∃z,Hid (s66.app []=z):=⟨_,rfl⟩
    have n67:s67.n≤s66.n:=by rw [←HS67.o];exact Nat.le_refl _
    have HW67:Hid (WQ P i G b k s67 w67):=by rw [←HS67.o];exact HW67.o
    go_wp2_with fail
    refine (jq3 HW67.o [[59]] _ rfl _ _ (by decide) (by show s67.n+2*1≤lim;omega)).mono ?_
    rintro e w68 ⟨rfl,h1,hf⟩
    clear c61 f61 hw61 s61_ c62 f62 hw62 s62_ c63 f63 hw63 s63_ c64 f64 hw64 s64_ c65 f65 hw65 s65_ c66 f66 hw66 s66_ c67 f67 hw67 s67_
    have hl68:([[59]]:List Rs.Bytes).length≤1:=by decide
    obtain ⟨s68,HS68⟩: ∃z,Hid (s67.app [[59]]=z):=⟨_,rfl⟩
    have n68:s68.n≤s67.n+2*1:=by rw [←HS68.o,St.app_n];have:=hl68;omega
    have HW68:Hid (WQ P i G b k s68 w68):=by rw [←HS68.o];exact h1
    have HB68:Hid (w68.heap[i]?=some (OI {{{{{{{h with days:= [false,h.days.getD 1 false,h.days.getD 2 false,h.days.getD 3 false,h.days.getD 4 false,h.days.getD 5 false,h.days.getD 6 false]} with days:= [false,false,h.days.getD 2 false,h.days.getD 3 false,h.days.getD 4 false,h.days.getD 5 false,h.days.getD 6 false]} with days:= [false,false,false,h.days.getD 3 false,h.days.getD 4 false,h.days.getD 5 false,h.days.getD 6 false]} with days:= [false,false,false,false,h.days.getD 4 false,h.days.getD 5 false,h.days.getD 6 false]} with days:= [false,false,false,false,false,h.days.getD 5 false,h.days.getD 6 false]} with days:= [false,false,false,false,false,false,h.days.getD 6 false]} with days:= [false,false,false,false,false,false,false]} c d n l)):=hf.blk HB67.o (fun e=>e (.inr rfl))
    have HF68:Hid (FN P w w68):=HF67.o.trans (hf.mono (fun q _ e e2=>e (.inl e2)))
    clear h1 hf
    go_wp2_with fail
    first|go_end0|refine bodyPost_ret (results_none rfl _ _ _) rfl ?_
    exact .inr ⟨[[119,101,101,107,101,110,100]]++(ts50++([]++([]++([]++([]++([]++([]++([]++([[59]]))))))))),(by show weekend h=some _;unfold weekend;rw [HT50.o]<;>(first|rfl|simp [cat,ok,natureT,semi])),rfl,⟨(by rw [←St.app_app,HS49.o,←St.app_app,HS50.o,←St.app_app,HS61.o,←St.app_app,HS62.o,←St.app_app,HS63.o,←St.app_app,HS64.o,←St.app_app,HS65.o,←St.app_app,HS66.o,←St.app_app,HS67.o,HS68.o];exact HW68.o),HB68.o⟩,HF68.o⟩
end Go.Proofs.YtfficindoecpfaaGreatDoor.Pt
namespace Go.Proofs.YtfficindoecpfaaGreatDoor.Pt
open Go.RowKit Mem Vw
open Ic (RowB)
theorem holiday_any {G:Nat} {P:Nat→Prop} {b:Nat} {k:Value} {s:St} {w:World} {i:Nat} {h:Rs.Item} {c d n l:Value} (hw:WQ P i G b k s w) (hi: ¬P i) (hG: ∀q,q<G→P q) (hb:w.heap[i]?=some (.cells (Rs.icells h c d n l).toArray 49 (0,0))) (ho:Ok h) (hr:RowB P w d 3 (h.dates.map Rs.civilc)) (hn:s.n+12*h.dates.length+60≤lim):
  Calls Tryz.prog 82 #[.pointer (some ⟨b,0,none⟩),.pointer (some ⟨i,0,none⟩)] w (Out P (holiday h) (fun ts w'=>WQ P i G b k (s.app ts) w'∧w'.heap[i]?=some (.cells (Rs.icells {h with dates:= []} c (.slice none 0 0) n l).toArray 49 (0,0))) w):=by
 have HW0:=hdd hw;have HI:=hdd hi;have HG:=hdd hG;have HR:=hdd hr
 have hlen:h.dates.length≤9223372036854775807:=by unfold lim at hn;omega
 obtain ⟨A,cap,hA,_,_⟩:=hr.slice
 rw [List.length_map] at hA
 subst hA
 have HB0:=hdd hb
 have e30:w.cell? ⟨i,30,none⟩=some (.slice A h.dates.length cap):=jq0 hb 30
 clear hw hi hG hb ho hr
 by_cases hne:h.dates= []
 ·rw [hne] at e30
  have e31:w.cell? ⟨i,30,none⟩=some (.slice A 0 cap):=e30
  clear e30
  have HT:Hid (holiday h=none):=if_pos hne
  clear hne
  go_enter Tryz.func82,Tryz.ntmps82
  go_wp2_with fail
  exact ⟨rfl,.inl ⟨HT.o,rfl,Fr.refl _ _⟩⟩
 have hnp:0<h.dates.length:=List.length_pos_iff.2 hne
 have q0:((h.dates.length:Int)==0)=false:=beq_eq_false_iff_ne.2 (by omega)
 have q1: ¬(h.dates.length:Int)=0:=by omega
 have q2:(0:Int)<(h.dates.length:Int):=by omega
 have HNE:=hdd hne
 clear hne
 go_enter Tryz.func82,Tryz.ntmps82
 go_wp2_with fail
 refine (jq3 HW0.o [[104,111,108,105,100,97,121]] _ rfl _ _ (by decide) (by show s.n+2*1≤lim;omega)).mono ?_
 rintro e w1 ⟨rfl,h1,hf⟩
 obtain ⟨s1,HS1⟩: ∃z,Hid (s.app [[104,111,108,105,100,97,121]]=z):=⟨_,rfl⟩
 have n1:s1.n≤s.n+2:=by rw [←HS1.o,St.app_n];exact Nat.le_refl _
 have HW1:Hid (WQ P i G b k (s1.app []) w1):=by rw [←HS1.o];exact h1
 have HB1:Hid (w1.heap[i]?=some (.cells (Rs.icells h c (.slice A h.dates.length cap) n l).toArray 49 (0,0))):=hf.blk HB0.o (fun e=>e (.inr rfl))
 have HF1:Hid (FN P w w1):=hf.mono (fun q _ e e2=>e (.inl e2))
 have HA0:Hid (commas date true (h.dates.take 0)=some []):=rfl
 have c30:w1.cell? ⟨i,30,none⟩=some (.slice A h.dates.length cap):=jq0 HB1.o 30
 clear h1 hf e30
 go_wp2_with fail
 go_loopw [22] (fun q wr=> ∃(j:Nat) (ts:List Rs.Bytes),q= .int .i64 j∧j≤h.dates.length∧Hid (commas date true (h.dates.take j)=some ts)∧Hid (ts.length≤6*j)∧Hid (WQ P i G b k (s1.app ts) wr)∧Hid (wr.heap[i]?=some (.cells (Rs.icells h c (.slice A h.dates.length cap) n l).toArray 49 (0,0)))∧Hid (FN P w wr)) (fun q _=>h.dates.length-(intOf q).toNat)
 case atStart=>exact ⟨0,[],rfl,Nat.zero_le _,HA0,Nat.zero_le _,HW1,HB1,HF1⟩
 case round=>
  clear HA0 HW1 HB1 HF1 c30
  obtain ⟨j,ts,rfl,hj,HA,HTL,HW,HB,HF⟩:=hrel
  have i1:(0:Int)≤(j:Int):=Int.natCast_nonneg _
  by_cases hlt:j<h.dates.length
  ·have i2:(j:Int)<(h.dates.length:Int):=by omega
   obtain ⟨x,hx⟩: ∃x,h.dates[j]?=some x:=⟨_,List.getElem?_eq_getElem hlt⟩
   obtain ⟨p0,r0,hA,hpg,hpb,hpat⟩:=(HR.o.fr HF.o (fun q hq e=>e hq)).at (k:=j) (x:=Rs.civilc x) (by rw [List.getElem?_map,hx];rfl)
   subst hA
   have cx0:wr.cell? ⟨p0,r0+j*3,none⟩=some (.int .i64 x.y):=hpat 0 _ rfl
   have cx1:wr.cell? ⟨p0,r0+j*3+1,none⟩=some (.int .i64 x.m):=hpat 1 _ rfl
   have cx2:wr.cell? ⟨p0,r0+j*3+2,none⟩=some (.int .i64 x.d):=hpat 2 _ rfl
   have HX:=hdd hx
   clear hpg hpb hpat hx
   go_upto_region 6 with fail
   obtain ⟨gi,HGI⟩: ∃q,Hid (wr.heap.size=q):=⟨_,rfl⟩
   obtain ⟨w2,hu⟩: ∃u,wr.alloc (.cells #[.int .i64 x.y,.int .i64 x.m,.int .i64 x.d] 23)=u:=⟨_,rfl⟩
   rw [hu,HGI.o]
   have HFA:Hid (Fr (fun _=>False) wr w2):=by rw [←hu];exact (Fr.refl _ wr).alloc _
   have HGB:Hid (w2.heap[gi]?=some (.cells #[.int .i64 x.y,.int .i64 x.m,.int .i64 x.d] 23 (0,0))):=by rw [←hu];exact jq2 HGI.o.symm
   have HW2:Hid (WR G (fun q=>(P q∨q=i)∨q=gi) b k (s1.app ts) w2):=HW.o.ext HFA.o (by rw [HGI.o];exact Nat.le_refl _) (jq7 HGB.o)
   have HB2:Hid (w2.heap[i]?=some (.cells (Rs.icells h c (.slice (some ⟨p0,r0,none⟩) h.dates.length cap) n l).toArray 49 (0,0))):=HFA.o.blk HB.o (fun e=>e)
   have HNN:Hid ((s1.app ts).n≤s.n+2+12*j):=by show _≤_;rw [St.app_n];have:=HTL.o;omega
   have HLT:Hid (j<h.dates.length):=hlt
   have HFX:Hid (FN P w w2):=HF.o.trans (HFA.o.mono (fun _ _ e=>e.elim))
   clear hu hlt cx0 cx1 cx2
   by_cases hj0:j=0
   ·subst hj0
    have g0:w2.cell? ⟨gi,0,none⟩=some (.int .i64 x.y):=jq0 HGB.o 0
    have g1:w2.cell? ⟨gi,1,none⟩=some (.int .i64 x.m):=jq0 HGB.o 1
    have g2:w2.cell? ⟨gi,2,none⟩=some (.int .i64 x.d):=jq0 HGB.o 2
    go_wp2_with fail
    refine (date_any HW2.o x (by have:=HNN.o;have:=HLT.o;skip;omega)).mono ?_
    rintro e w4 (⟨ht,rfl,hf⟩|⟨tx,ht,rfl,h1,hf⟩)
    ·exact ⟨rfl,.inl ⟨by unfold holiday;rw [if_neg HNE.o,kq8 _ true 0 x HX.o ht];rfl,rfl,HFX.o.trans (hf.mono (fun q _ e e2=>e (.inl (.inl e2))))⟩⟩
    have hl:=date_le _ ht
    have HAN:Hid (commas date true (h.dates.take (0+1))=some (ts++(comma 0++tx))):=kv2 HX.o HA.o ht
    have HTN:Hid ((ts++(comma 0++tx)).length≤6*(0+1)):=by show _≤_;rw [List.length_append,List.length_append];have:=HTL.o;have:=comma_len 0;omega
    have HWN:Hid (WQ P i G b k (s1.app (ts++(comma 0++tx))) w4):=by
     rw [←St.app_app,←St.app_app,show comma 0= [] from rfl,St.app_nil]
     exact h1.mono (fun q hq=> .inl hq) (fun q hq=> .inl (HG.o q hq))
    have HBN:Hid (w4.heap[i]?=some (.cells (Rs.icells h c (.slice (some ⟨p0,r0,none⟩) h.dates.length cap) n l).toArray 49 (0,0))):=hf.blk HB2.o (fun e=>e (.inl (.inr rfl)))
    have HFN:Hid (FN P w w4):=HFX.o.trans (hf.mono (fun q _ e e2=>e (.inl (.inl e2))))
    clear h1 hf ht
    go_wp2_with fail
    go_roundw
    case rel=>exact ⟨0+1,_,by go_num,HLT.o,HAN,HTN,HWN,HBN,HFN⟩
    case measure=>have:=HLT.o;simp [intOf];omega
   have HJ0:=hdd hj0
   have j0:(0:Int)<(j:Int):=by omega
   clear hj0
   go_wp2_with fail
   refine (jq3 HW2.o [[44]] _ rfl _ _ (by decide) (by have:=HNN.o;have:=HLT.o;show (s1.app ts).n+2*1≤lim;omega)).mono ?_
   rintro e w3 ⟨rfl,h1,hf⟩
   have HW3:=hdd h1
   have HGB3:Hid (w3.heap[gi]?=some (.cells #[.int .i64 x.y,.int .i64 x.m,.int .i64 x.d] 23 (0,0))):=hf.blk HGB.o (fun e=>e (.inr rfl))
   have HB3:Hid (w3.heap[i]?=some (.cells (Rs.icells h c (.slice (some ⟨p0,r0,none⟩) h.dates.length cap) n l).toArray 49 (0,0))):=hf.blk HB2.o (fun e=>e (.inl (.inr rfl)))
   have HF3:Hid (FN P w w3):=HFX.o.trans (hf.mono (fun q _ e e2=>e (.inl (.inl e2))))
   have HNC:Hid (((s1.app ts).app [[44]]).n=(s1.app ts).n+2):=by show _=_;rw [St.app_n];rfl
   have HCM:Hid (comma j= [[44]]):=by show _=_;unfold comma;exact if_neg HJ0.o
   clear h1 hf
   have g0:w3.cell? ⟨gi,0,none⟩=some (.int .i64 x.y):=jq0 HGB3.o 0
   have g1:w3.cell? ⟨gi,1,none⟩=some (.int .i64 x.m):=jq0 HGB3.o 1
   have g2:w3.cell? ⟨gi,2,none⟩=some (.int .i64 x.d):=jq0 HGB3.o 2
   go_wp2_with fail
   refine (date_any HW3.o x (by have:=HNN.o;have:=HLT.o;have:=HNC.o;omega)).mono ?_
   rintro e w4 (⟨ht,rfl,hf⟩|⟨tx,ht,rfl,h1,hf⟩)
   ·exact ⟨rfl,.inl ⟨by unfold holiday;rw [if_neg HNE.o,kq8 _ true j x HX.o ht];rfl,rfl,HF3.o.trans (hf.mono (fun q _ e e2=>e (.inl (.inl e2))))⟩⟩
   have hl:=date_le _ ht
   have HAN:Hid (commas date true (h.dates.take (j+1))=some (ts++(comma j++tx))):=kv2 HX.o HA.o ht
   have HTN:Hid ((ts++(comma j++tx)).length≤6*(j+1)):=by show _≤_;rw [List.length_append,List.length_append];have:=HTL.o;have:=comma_len j;omega
   have HWN:Hid (WQ P i G b k (s1.app (ts++(comma j++tx))) w4):=by
    rw [←St.app_app,←St.app_app,HCM.o]
    exact h1.mono (fun q hq=> .inl hq) (fun q hq=> .inl (HG.o q hq))
   have HBN:Hid (w4.heap[i]?=some (.cells (Rs.icells h c (.slice (some ⟨p0,r0,none⟩) h.dates.length cap) n l).toArray 49 (0,0))):=hf.blk HB3.o (fun e=>e (.inl (.inr rfl)))
   have HFN:Hid (FN P w w4):=HF3.o.trans (hf.mono (fun q _ e e2=>e (.inl (.inl e2))))
   clear h1 hf ht
   go_wp2_with fail
   go_roundw
   case rel=>exact ⟨j+1,_,by go_num,HLT.o,HAN,HTN,HWN,HBN,HFN⟩
   case measure=>have:=HLT.o;simp [intOf];omega
  ·obtain rfl:j=h.dates.length:=by omega
   rw [List.take_length] at HA
   obtain ⟨ts50,HTT⟩: ∃z,Hid (ts=z):=⟨_,rfl⟩
   rw [HTT.o] at HA
   have HT50:=HA
   have HS49:=HS1
   have c50:wr.cell? ⟨i,30,none⟩=some (.slice A h.dates.length cap):=jq0 HB.o 30
   have f50:wr.frozen? ⟨i,30,none⟩=false:=jq1 HB.o 30
   obtain ⟨w50,hw50⟩: ∃u,wr.setCell ⟨i,30,none⟩ (.slice none 0 0)=u:=⟨_,rfl⟩
   have hf:Fr (fun q=>q=i) wr w50:=by rw [←hw50];exact (Fr.refl (fun q=>q=i) wr).setb 30 _
   have HB50:Hid (w50.heap[i]?=some (.cells (Rs.icells ({h with dates:= []}:Rs.Item) c (.slice none 0 0) n l).toArray 49 (0,0))):=by rw [←hw50];exact jq9 HB.o 30 _
   have HF50:Hid (FN P w w50):=HF.o.trans (hf.mono (fun q _ e e2=>by have e:q=i:=e;subst e;exact HI.o e2))
   obtain ⟨s50,HS50⟩: ∃z,Hid (s1.app ts50=z):=⟨_,rfl⟩
   have n50:s50.n≤s.n+2+12*h.dates.length:=by rw [←HS50.o,St.app_n,←HTT.o];have:=HTL.o;omega
   have HW50:Hid (WQ P i G b k s50 w50):=by
    rw [←HS50.o,←HTT.o]
    exact HW.o.fr hf (fun q e=>⟨.inr e,by have e:q=i:=e;subst e;exact Nat.le_of_not_lt fun h=>HI.o (HG.o _ h)⟩)
   clear hf HW HB HF hj i1
   go_upto_region 11 with fail
   clear hw50 c50 f50
   go_wp2_with fail
   refine (jq3 HW50.o [[59]] _ rfl _ _ (by decide) (by show s50.n+2*1≤lim;omega)).mono ?_
   rintro e w61 ⟨rfl,h1,hf⟩
   have hl61:([[59]]:List Rs.Bytes).length≤1:=by decide
   obtain ⟨s61,HS61⟩: ∃z,Hid (s50.app [[59]]=z):=⟨_,rfl⟩
   have n61:s61.n≤s50.n+2*1:=by rw [←HS61.o,St.app_n];have:=hl61;omega
   have HW61:Hid (WQ P i G b k s61 w61):=by rw [←HS61.o];exact h1
   have HB61:Hid (w61.heap[i]?=some (.cells ((Rs.icells ({h with dates:= []}:Rs.Item) c (.slice none 0 0) n l).toArray) 49 (0,0))):=hf.blk HB50.o (fun e=>e (.inr rfl))
   have HF61:Hid (FN P w w61):=HF50.o.trans (hf.mono (fun q _ e e2=>e (.inl e2)))
   clear h1 hf
   go_wp2_with fail
   first|go_end0|refine bodyPost_ret (results_none rfl _ _ _) rfl ?_
   exact .inr ⟨[[104,111,108,105,100,97,121]]++(ts50++([[59]])),(by show holiday h=some _;unfold holiday;rw [if_neg HNE.o,HT50.o]<;>(first|rfl|simp [cat,ok,natureT,semi])),rfl,⟨(by rw [←St.app_app,HS49.o,←St.app_app,HS50.o,HS61.o];exact HW61.o),HB61.o⟩,HF61.o⟩
end Go.Proofs.YtfficindoecpfaaGreatDoor.Pt
namespace Go.Proofs.YtfficindoecpfaaGreatDoor.Pt
open Go.RowKit Mem Go.ChangeMaps
theorem run_put {w:World} {r clock:Nat} {es:Array MapEntry} {s:Int} {val:Value} (hb:w.heap[r]?=some (.map es clock)) (hf:Instr.findNow (.int .i64) (.int .i64 s) es.toList 0=some none):
  (Instr.mapUpdate 54 (.map (some r)) (.int .i64 s) val).run Tryz.prog w= .ok () (setBlock w r (.map (es.push {key:= .int .i64 s,val:=val,born:=clock}) (clock+1))):=by
 have hc:(Instr.checkKey false 10000 3 (.int .i64 s)).run Tryz.prog w= .ok () w:=MapKept.run_checkKey (k:= .int .i64 s) Tryz.underlying3 (by simp [MapKept.IsKey]) false 9999
 simp [Instr.mapUpdate,run_underlying Tryz.underlying54,MapKept.run_getObj_map hb,hc,MapKept.run_findKey Tryz.underlying3 hf,MapKept.run_setObj_map _ hb,Result.andThen,setBlock]
theorem run_look {w:World} {r clock:Nat} {es:Array MapEntry} {s:Int} {i:Nat} {v:Value} (hb:w.heap[r]?=some (.map es clock)) (hf:Instr.findNow (.int .i64) (.int .i64 s) es.toList 0=some (some (i,v))):
  (Instr.lookup 54 (.map (some r)) (.int .i64 s) true).run Tryz.prog w= .ok (.tuple #[v,.bool true]) w:=by
 have hc: ∀e,(Instr.checkKey e 10000 3 (.int .i64 s)).run Tryz.prog w= .ok () w:=fun e=>MapKept.run_checkKey (k:= .int .i64 s) Tryz.underlying3 (by simp [MapKept.IsKey]) e 9999
 simp [Instr.lookup,run_underlying Tryz.underlying54,MapKept.run_getObj_map hb,hc,MapKept.run_findKey Tryz.underlying3 hf,Result.andThen]
theorem run_look_no {w:World} {r clock:Nat} {es:Array MapEntry} {s:Int} (hb:w.heap[r]?=some (.map es clock)) (hf:Instr.findNow (.int .i64) (.int .i64 s) es.toList 0=some none):
  (Instr.lookup 54 (.map (some r)) (.int .i64 s) true).run Tryz.prog w= .ok (.tuple #[.nilFunc,.bool false]) w:=by
 have hc: ∀e,(Instr.checkKey e 10000 3 (.int .i64 s)).run Tryz.prog w= .ok () w:=fun e=>MapKept.run_checkKey (k:= .int .i64 s) Tryz.underlying3 (by simp [MapKept.IsKey]) e 9999
 have hz:(zeroValue 78).run Tryz.prog w= .ok .nilFunc w:=by kernel_rfl
 simp [Instr.lookup,run_underlying Tryz.underlying54,MapKept.run_getObj_map hb,hc,MapKept.run_findKey Tryz.underlying3 hf,hz,Result.andThen]
theorem put_fr {w:World} {r:Nat} {o o2:Obj} (h:w.heap[r]?=some o):(setBlock w r o2).heap[r]?=some o2∧Fr (fun k=>k=r) w (setBlock w r o2):=by
 refine ⟨?_,rfl,rfl,rfl,by simp [setBlock],fun k hk hs=>?_⟩
 ·have:=jq7 h
  simp [setBlock,this]
 ·simp only [setBlock]
  rw [Array.getElem?_setIfInBounds,if_neg (fun e=>hs e.symm)]
theorem wpList_insert {ops:Array Oper} {rest:List Oper} {o:Oper} {a:Act} {w:World} {Q:Exit→Act→World→Prop} (hg:o.guard=none) (m:Operand) (s:Int) (x:Operand) (hop:o.op= .insert 54 m (.const (.int .i64 s)) x) (r clock:Nat) (es:Array MapEntry) (hm:a.eval m= .map (some r)) (val:Value) (hx:a.eval x=val)
  (hb:w.heap[r]?=some (.map es clock)) (hf:Instr.findNow (.int .i64) (.int .i64 s) es.toList 0=some none)
  (h: ∀w',w'.heap[r]?=some (.map (es.push {key:= .int .i64 s,val:=val,born:=clock}) (clock+1))→Fr (fun k=>k=r) w w'→wpList Tryz.prog ops Q rest (a.put o.dst undef) w'):wpList Tryz.prog ops Q (o::rest) a w:=by
 refine wpList_plain hg fun K hK=>?_
 unfold Oper.wp
 have hc:a.eval (.const (.int .i64 s))= .int .i64 s:=rfl
 simp [execOp,hop,hm,hx,hc,run_put hb hf,Result.andThen]
 exact hK _ _ (h _ (put_fr hb).1 (put_fr hb).2)
theorem wpList_put {ops:Array Oper} {rest:List Oper} {o:Oper} {a:Act} {w:World} {Q:Exit→Act→World→Prop} (hg:o.guard=none) (m:Operand) (s:Int) (x:Operand) (hop:o.op= .mapUpdate 54 m (.const (.int .i64 s)) x) (r clock:Nat) (es:Array MapEntry) (hm:a.eval m= .map (some r)) (val:Value) (hx:a.eval x=val)
  (hb:w.heap[r]?=some (.map es clock)) (hf:Instr.findNow (.int .i64) (.int .i64 s) es.toList 0=some none)
  (h: ∀w',w'.heap[r]?=some (.map (es.push {key:= .int .i64 s,val:=val,born:=clock}) (clock+1))→Fr (fun k=>k=r) w w'→wpList Tryz.prog ops Q rest (a.put o.dst undef) w'):wpList Tryz.prog ops Q (o::rest) a w:=by
 refine wpList_plain hg fun K hK=>?_
 unfold Oper.wp
 have hc:a.eval (.const (.int .i64 s))= .int .i64 s:=rfl
 simp [execOp,hop,hm,hx,hc,run_put hb hf,Result.andThen]
 exact hK _ _ (h _ (put_fr hb).1 (put_fr hb).2)
def innerEnts:Array MapEntry:= #[⟨.int .i64 9,.func (.func 33) #[] #[],0⟩,⟨.int .i64 10,.func (.func 34) #[] #[],1⟩,⟨.int .i64 11,.func (.func 35) #[] #[],2⟩,⟨.int .i64 12,.func (.func 36) #[] #[],3⟩,⟨.int .i64 14,.func (.func 37) #[] #[],4⟩]
def allEnts:Array MapEntry:= #[⟨.int .i64 9,.func (.func 33) #[] #[],0⟩,⟨.int .i64 10,.func (.func 34) #[] #[],1⟩,⟨.int .i64 11,.func (.func 35) #[] #[],2⟩,⟨.int .i64 12,.func (.func 36) #[] #[],3⟩,⟨.int .i64 14,.func (.func 37) #[] #[],4⟩,⟨.int .i64 1,.func (.func 78) #[] #[],5⟩,⟨.int .i64 2,.func (.func 79) #[] #[],6⟩,⟨.int .i64 3,.func (.func 80) #[] #[],7⟩,⟨.int .i64 4,.func (.func 81) #[] #[],8⟩,⟨.int .i64 5,.func (.func 82) #[] #[],9⟩,⟨.int .i64 6,.func (.func 83) #[] #[],10⟩,⟨.int .i64 7,.func (.func 84) #[] #[],11⟩,⟨.int .i64 8,.func (.func 85) #[] #[],12⟩,⟨.int .i64 13,.func (.func 86) #[] #[],13⟩]
theorem innerKinds_any (W:World):Calls Tryz.prog 20 #[] W fun e w'=>e= .returned (.map (some W.heap.size))∧w'.heap[W.heap.size]?=some (.map innerEnts 5)∧Fr (fun _=>False) W w':=by
 have hmm:= @run_makeMap Tryz.prog
 go_enter Tryz.func20,Tryz.ntmps20
 go_wp2_with (first|(refine wpList_insert rfl _ 9 _ rfl W.heap.size 0 #[] rfl _ rfl (kx3 W _) (by kernel_rfl) ?_;intro w1 hb hfr;have hb1:=hdd hb;have hf1:=hdd ((Fr.refl (fun k=>k=W.heap.size) (W.alloc (.map #[] 0))).trans hfr);clear hb hfr)|(refine wpList_insert rfl _ 10 _ rfl W.heap.size 1 #[⟨.int .i64 9,.func (.func 33) #[] #[],0⟩] rfl _ rfl hb1.out (by kernel_rfl) ?_;intro w2 hb hfr;have hb2:=hdd hb;have hf2:=hdd (hf1.out.trans hfr);clear hb hfr)|(refine wpList_insert rfl _ 11 _ rfl W.heap.size 2 #[⟨.int .i64 9,.func (.func 33) #[] #[],0⟩,⟨.int .i64 10,.func (.func 34) #[] #[],1⟩] rfl _ rfl hb2.out (by kernel_rfl) ?_;intro w3 hb hfr;have hb3:=hdd hb;have hf3:=hdd (hf2.out.trans hfr);clear hb hfr)|(refine wpList_insert rfl _ 12 _ rfl W.heap.size 3 #[⟨.int .i64 9,.func (.func 33) #[] #[],0⟩,⟨.int .i64 10,.func (.func 34) #[] #[],1⟩,⟨.int .i64 11,.func (.func 35) #[] #[],2⟩] rfl _ rfl hb3.out (by kernel_rfl) ?_;intro w4 hb hfr;have hb4:=hdd hb;have hf4:=hdd (hf3.out.trans hfr);clear hb hfr)|(refine wpList_insert rfl _ 14 _ rfl W.heap.size 4 #[⟨.int .i64 9,.func (.func 33) #[] #[],0⟩,⟨.int .i64 10,.func (.func 34) #[] #[],1⟩,⟨.int .i64 11,.func (.func 35) #[] #[],2⟩,⟨.int .i64 12,.func (.func 36) #[] #[],3⟩] rfl _ rfl hb4.out (by kernel_rfl) ?_;intro w5 hb hfr;have hb5:=hdd hb;have hf5:=hdd (hf4.out.trans hfr);clear hb hfr))
 go_ret
 refine ⟨rfl,hb5.out,?_⟩
 exact ((Fr.refl (fun _=>False) W).alloc (.map #[] 0)).trans' hf5.out (fun i hi e=>by omega)
theorem allKinds_any (W:World):Calls Tryz.prog 43 #[] W fun e w'=>e= .returned (.map (some W.heap.size))∧w'.heap[W.heap.size]?=some (.map allEnts 14)∧Fr (fun _=>False) W w':=by
 go_enter Tryz.func43,Tryz.ntmps43
 go_wp2_with fail
 refine (innerKinds_any _).mono ?_
 rintro e w0 ⟨rfl,hb,hfr⟩
 have hb5:=hdd hb;have hf0:=hdd hfr
 clear hb hfr
 go_wp2_with (first|(refine wpList_put rfl _ 1 _ rfl W.heap.size 5 #[⟨.int .i64 9,.func (.func 33) #[] #[],0⟩,⟨.int .i64 10,.func (.func 34) #[] #[],1⟩,⟨.int .i64 11,.func (.func 35) #[] #[],2⟩,⟨.int .i64 12,.func (.func 36) #[] #[],3⟩,⟨.int .i64 14,.func (.func 37) #[] #[],4⟩] rfl _ rfl hb5.out (by kernel_rfl) ?_;intro w6 hb hfr;have hb6:=hdd hb;have hf6:=hdd hfr;clear hb hfr)|(refine wpList_put rfl _ 2 _ rfl W.heap.size 6 #[⟨.int .i64 9,.func (.func 33) #[] #[],0⟩,⟨.int .i64 10,.func (.func 34) #[] #[],1⟩,⟨.int .i64 11,.func (.func 35) #[] #[],2⟩,⟨.int .i64 12,.func (.func 36) #[] #[],3⟩,⟨.int .i64 14,.func (.func 37) #[] #[],4⟩,⟨.int .i64 1,.func (.func 78) #[] #[],5⟩] rfl _ rfl hb6.out (by kernel_rfl) ?_;intro w7 hb hfr;have hb7:=hdd hb;have hf7:=hdd (hf6.out.trans hfr);clear hb hfr)|(refine wpList_put rfl _ 3 _ rfl W.heap.size 7 #[⟨.int .i64 9,.func (.func 33) #[] #[],0⟩,⟨.int .i64 10,.func (.func 34) #[] #[],1⟩,⟨.int .i64 11,.func (.func 35) #[] #[],2⟩,⟨.int .i64 12,.func (.func 36) #[] #[],3⟩,⟨.int .i64 14,.func (.func 37) #[] #[],4⟩,⟨.int .i64 1,.func (.func 78) #[] #[],5⟩,⟨.int .i64 2,.func (.func 79) #[] #[],6⟩] rfl _ rfl hb7.out (by kernel_rfl) ?_;intro w8 hb hfr;have hb8:=hdd hb;have hf8:=hdd (hf7.out.trans hfr);clear hb hfr)|(refine wpList_put rfl _ 4 _ rfl W.heap.size 8 #[⟨.int .i64 9,.func (.func 33) #[] #[],0⟩,⟨.int .i64 10,.func (.func 34) #[] #[],1⟩,⟨.int .i64 11,.func (.func 35) #[] #[],2⟩,⟨.int .i64 12,.func (.func 36) #[] #[],3⟩,⟨.int .i64 14,.func (.func 37) #[] #[],4⟩,⟨.int .i64 1,.func (.func 78) #[] #[],5⟩,⟨.int .i64 2,.func (.func 79) #[] #[],6⟩,⟨.int .i64 3,.func (.func 80) #[] #[],7⟩] rfl _ rfl hb8.out (by kernel_rfl) ?_;intro w9 hb hfr;have hb9:=hdd hb;have hf9:=hdd (hf8.out.trans hfr);clear hb hfr)|(refine wpList_put rfl _ 5 _ rfl W.heap.size 9 #[⟨.int .i64 9,.func (.func 33) #[] #[],0⟩,⟨.int .i64 10,.func (.func 34) #[] #[],1⟩,⟨.int .i64 11,.func (.func 35) #[] #[],2⟩,⟨.int .i64 12,.func (.func 36) #[] #[],3⟩,⟨.int .i64 14,.func (.func 37) #[] #[],4⟩,⟨.int .i64 1,.func (.func 78) #[] #[],5⟩,⟨.int .i64 2,.func (.func 79) #[] #[],6⟩,⟨.int .i64 3,.func (.func 80) #[] #[],7⟩,⟨.int .i64 4,.func (.func 81) #[] #[],8⟩] rfl _ rfl hb9.out (by kernel_rfl) ?_;intro w10 hb hfr;have hb10:=hdd hb;have hf10:=hdd (hf9.out.trans hfr);clear hb hfr)|(refine wpList_put rfl _ 6 _ rfl W.heap.size 10 #[⟨.int .i64 9,.func (.func 33) #[] #[],0⟩,⟨.int .i64 10,.func (.func 34) #[] #[],1⟩,⟨.int .i64 11,.func (.func 35) #[] #[],2⟩,⟨.int .i64 12,.func (.func 36) #[] #[],3⟩,⟨.int .i64 14,.func (.func 37) #[] #[],4⟩,⟨.int .i64 1,.func (.func 78) #[] #[],5⟩,⟨.int .i64 2,.func (.func 79) #[] #[],6⟩,⟨.int .i64 3,.func (.func 80) #[] #[],7⟩,⟨.int .i64 4,.func (.func 81) #[] #[],8⟩,⟨.int .i64 5,.func (.func 82) #[] #[],9⟩] rfl _ rfl hb10.out (by kernel_rfl) ?_;intro w11 hb hfr;have hb11:=hdd hb;have hf11:=hdd (hf10.out.trans hfr);clear hb hfr)|(refine wpList_put rfl _ 7 _ rfl W.heap.size 11 #[⟨.int .i64 9,.func (.func 33) #[] #[],0⟩,⟨.int .i64 10,.func (.func 34) #[] #[],1⟩,⟨.int .i64 11,.func (.func 35) #[] #[],2⟩,⟨.int .i64 12,.func (.func 36) #[] #[],3⟩,⟨.int .i64 14,.func (.func 37) #[] #[],4⟩,⟨.int .i64 1,.func (.func 78) #[] #[],5⟩,⟨.int .i64 2,.func (.func 79) #[] #[],6⟩,⟨.int .i64 3,.func (.func 80) #[] #[],7⟩,⟨.int .i64 4,.func (.func 81) #[] #[],8⟩,⟨.int .i64 5,.func (.func 82) #[] #[],9⟩,⟨.int .i64 6,.func (.func 83) #[] #[],10⟩] rfl _ rfl hb11.out (by kernel_rfl) ?_;intro w12 hb hfr;have hb12:=hdd hb;have hf12:=hdd (hf11.out.trans hfr);clear hb hfr)|(refine wpList_put rfl _ 8 _ rfl W.heap.size 12 #[⟨.int .i64 9,.func (.func 33) #[] #[],0⟩,⟨.int .i64 10,.func (.func 34) #[] #[],1⟩,⟨.int .i64 11,.func (.func 35) #[] #[],2⟩,⟨.int .i64 12,.func (.func 36) #[] #[],3⟩,⟨.int .i64 14,.func (.func 37) #[] #[],4⟩,⟨.int .i64 1,.func (.func 78) #[] #[],5⟩,⟨.int .i64 2,.func (.func 79) #[] #[],6⟩,⟨.int .i64 3,.func (.func 80) #[] #[],7⟩,⟨.int .i64 4,.func (.func 81) #[] #[],8⟩,⟨.int .i64 5,.func (.func 82) #[] #[],9⟩,⟨.int .i64 6,.func (.func 83) #[] #[],10⟩,⟨.int .i64 7,.func (.func 84) #[] #[],11⟩] rfl _ rfl hb12.out (by kernel_rfl) ?_;intro w13 hb hfr;have hb13:=hdd hb;have hf13:=hdd (hf12.out.trans hfr);clear hb hfr)|(refine wpList_put rfl _ 13 _ rfl W.heap.size 13 #[⟨.int .i64 9,.func (.func 33) #[] #[],0⟩,⟨.int .i64 10,.func (.func 34) #[] #[],1⟩,⟨.int .i64 11,.func (.func 35) #[] #[],2⟩,⟨.int .i64 12,.func (.func 36) #[] #[],3⟩,⟨.int .i64 14,.func (.func 37) #[] #[],4⟩,⟨.int .i64 1,.func (.func 78) #[] #[],5⟩,⟨.int .i64 2,.func (.func 79) #[] #[],6⟩,⟨.int .i64 3,.func (.func 80) #[] #[],7⟩,⟨.int .i64 4,.func (.func 81) #[] #[],8⟩,⟨.int .i64 5,.func (.func 82) #[] #[],9⟩,⟨.int .i64 6,.func (.func 83) #[] #[],10⟩,⟨.int .i64 7,.func (.func 84) #[] #[],11⟩,⟨.int .i64 8,.func (.func 85) #[] #[],12⟩] rfl _ rfl hb13.out (by kernel_rfl) ?_;intro w14 hb hfr;have hb14:=hdd hb;have hf14:=hdd (hf13.out.trans hfr);clear hb hfr))
 go_ret
 exact ⟨rfl,hb14.out,hf0.out.trans' hf14.out (fun i hi e=>by omega)⟩
def fid (k:Nat):Nat:=match k with
 |1=>78
 |2=>79
 |3=>80
 |4=>81
 |5=>82
 |6=>83
 |7=>84
 |8=>85
 |9=>33
 |10=>34
 |11=>35
 |12=>36
 |13=>86
 |_=>37
theorem look_all (k:Nat) (h0:1≤k) (h1:k≤14): ∃i,Instr.findNow (.int .i64) (.int .i64 (k:Int)) allEnts.toList 0=some (some (i,.func (.func (fid k)) #[] #[])):=by
 match k,h0,h1 with
 |9,_,_=>exact ⟨0,by kernel_rfl⟩
 |10,_,_=>exact ⟨1,by kernel_rfl⟩
 |11,_,_=>exact ⟨2,by kernel_rfl⟩
 |12,_,_=>exact ⟨3,by kernel_rfl⟩
 |14,_,_=>exact ⟨4,by kernel_rfl⟩
 |1,_,_=>exact ⟨5,by kernel_rfl⟩
 |2,_,_=>exact ⟨6,by kernel_rfl⟩
 |3,_,_=>exact ⟨7,by kernel_rfl⟩
 |4,_,_=>exact ⟨8,by kernel_rfl⟩
 |5,_,_=>exact ⟨9,by kernel_rfl⟩
 |6,_,_=>exact ⟨10,by kernel_rfl⟩
 |7,_,_=>exact ⟨11,by kernel_rfl⟩
 |8,_,_=>exact ⟨12,by kernel_rfl⟩
 |13,_,_=>exact ⟨13,by kernel_rfl⟩
theorem look_inner (k:Nat) (h:k=9∨k=10∨k=11∨k=12∨k=14): ∃i,Instr.findNow (.int .i64) (.int .i64 (k:Int)) innerEnts.toList 0=some (some (i,.func (.func (fid k)) #[] #[])):=by
 rcases h with rfl|rfl|rfl|rfl|rfl
 ·exact ⟨0,by kernel_rfl⟩
 ·exact ⟨1,by kernel_rfl⟩
 ·exact ⟨2,by kernel_rfl⟩
 ·exact ⟨3,by kernel_rfl⟩
 ·exact ⟨4,by kernel_rfl⟩
theorem same_int (a b:Int):Instr.sameNow (.int .i64) (.int .i64 a) (.int .i64 b)=some (a==b):=by rfl
theorem no_all (k:Int) (h: ¬(1≤k∧k≤14)):Instr.findNow (.int .i64) (.int .i64 k) allEnts.toList 0=some none:=by
 have hn: ∀c:Int,1≤c→c≤14→(k==c)=false:=fun c h1 h2=>beq_eq_false_iff_ne.2 (by omega)
 simp only [allEnts,Instr.findNow,same_int,hn 9 (by decide) (by decide),hn 10 (by decide) (by decide),hn 11 (by decide) (by decide),hn 12 (by decide) (by decide),hn 14 (by decide) (by decide),hn 1 (by decide) (by decide),hn 2 (by decide) (by decide),hn 3 (by decide) (by decide),hn 4 (by decide) (by decide),hn 5 (by decide) (by decide),hn 6 (by decide) (by decide),hn 7 (by decide) (by decide),hn 8 (by decide) (by decide),hn 13 (by decide) (by decide)]
theorem no_inner (k:Int) (h: ¬(k=9∨k=10∨k=11∨k=12∨k=14)):Instr.findNow (.int .i64) (.int .i64 k) innerEnts.toList 0=some none:=by
 have hn: ∀c:Int,(c=9∨c=10∨c=11∨c=12∨c=14)→(k==c)=false:=fun c h1=>beq_eq_false_iff_ne.2 (by omega)
 simp only [innerEnts,Instr.findNow,same_int,hn 9 (by decide),hn 10 (by decide),hn 11 (by decide),hn 12 (by decide),hn 14 (by decide)]
theorem ent_fid (k:Nat) (h0:1≤k) (h1:k≤14): ∀args W,(callFunc (fid k) args).run Tryz.prog W= .ok (.enter (fid k) args) W:=by
 match k,h0,h1 with
 |9,_,_=>exact enters_of Tryz.func33 (by kernel_rfl) rfl
 |10,_,_=>exact enters_of Tryz.func34 (by kernel_rfl) rfl
 |11,_,_=>exact enters_of Tryz.func35 (by kernel_rfl) rfl
 |12,_,_=>exact enters_of Tryz.func36 (by kernel_rfl) rfl
 |14,_,_=>exact enters_of Tryz.func37 (by kernel_rfl) rfl
 |1,_,_=>exact enters_of Tryz.func78 (by kernel_rfl) rfl
 |2,_,_=>exact enters_of Tryz.func79 (by kernel_rfl) rfl
 |3,_,_=>exact enters_of Tryz.func80 (by kernel_rfl) rfl
 |4,_,_=>exact enters_of Tryz.func81 (by kernel_rfl) rfl
 |5,_,_=>exact enters_of Tryz.func82 (by kernel_rfl) rfl
 |6,_,_=>exact enters_of Tryz.func83 (by kernel_rfl) rfl
 |7,_,_=>exact enters_of Tryz.func84 (by kernel_rfl) rfl
 |8,_,_=>exact enters_of Tryz.func85 (by kernel_rfl) rfl
 |13,_,_=>exact enters_of Tryz.func86 (by kernel_rfl) rfl
end Go.Proofs.YtfficindoecpfaaGreatDoor.Pt
