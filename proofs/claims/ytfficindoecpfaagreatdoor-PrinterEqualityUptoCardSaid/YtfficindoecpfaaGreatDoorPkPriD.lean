/-
  The printer's items: a writer by its kind; an item that is no template. The printer's item: an item that is no template. The printer's templates. The printer's item: a template, and any item. The printer's source. What the printer's walk has written, and the plain printer. What Print returns.
-/
import Derived.Test.YtfficindoecpfaaGreatDoorPkPriC
import Derived.Test.YtfficindoecpfaaGreatDoorPriBlank
import Derived.Test.YtfficindoecpfaaGreatDoorPkInc
import Derived.Defers
import Derived.Recover
import Derived.ChangeAlike
import Derived.Laws.Pointers
set_option maxHeartbeats 64000000
set_option maxRecDepth 100000
set_option linter.unusedVariables false
set_option linter.unusedSimpArgs false
namespace Go.Proofs.YtfficindoecpfaaGreatDoor.Pt
open Go.RowKit Mem Vw
open Ic (RowB DT Lay)
theorem Out.imp {P:Nat→Prop} {t t':T} {R R':List Rs.Bytes→World→Prop} {w:World} {e:Ending} {w':World} (h:Out P t R w e w') (ht:t=t') (hr: ∀ts u,R ts u→R' ts u):Out P t' R' w e w':=by
 subst ht
 rcases h with h|⟨ts,h1,h2,h3,h4⟩
 ·exact .inl h
 ·exact .inr ⟨ts,h1,h2,hr _ _ h3,h4⟩
def SF (m:Nat) (v:Value):Prop:= ∃A q,v= .slice A m q
theorem SF.nil:SF 0 (.slice none 0 0):=⟨_,_,rfl⟩
def cost (h:Rs.Item):Nat:=6*h.conds.length+4*h.names.length+12*h.dates.length+400
theorem jz7 (h:Rs.Item):(circLeft h).conds= []∧(circLeft h).dates=h.dates∧(circLeft h).names=h.names:=by unfold circLeft;split<;>exact ⟨rfl,rfl,rfl⟩
theorem jj2 (h:Rs.Item):(consLeft h).conds=h.conds∧(consLeft h).dates=h.dates∧(consLeft h).names=h.names:=by
 unfold consLeft
 split
 ·exact ⟨rfl,rfl,rfl⟩
 ·split<;>exact ⟨rfl,rfl,rfl⟩
theorem unit_conds (h:Rs.Item):(unitLeft h).conds=h.conds∧(unitLeft h).dates=h.dates∧(unitLeft h).names=h.names:=by unfold unitLeft;split<;>exact ⟨rfl,rfl,rfl⟩
theorem act_conds (h:Rs.Item):(actLeft h).conds=h.conds∧(actLeft h).dates=h.dates∧(actLeft h).names=h.names:=by
 unfold actLeft
 split
 ·split<;>exact ⟨rfl,rfl,rfl⟩
 ·exact ⟨rfl,rfl,rfl⟩
theorem left_1 {h:Rs.Item} (hk:h.kind=1):left h= {h with name:= []}:=by simp [left,hk]
theorem flat_1 {h:Rs.Item} (hk:h.kind=1):flatT h=party h:=by simp [flatT,hk]
theorem left_2 {h:Rs.Item} (hk:h.kind=2):left h= {h with name:= [],of_:= []}:=by simp [left,hk]
theorem flat_2 {h:Rs.Item} (hk:h.kind=2):flatT h=role h:=by simp [flatT,hk]
theorem left_3 {h:Rs.Item} (hk:h.kind=3):left h=unitLeft h:=by simp [left,hk,unitLeft]
theorem flat_3 {h:Rs.Item} (hk:h.kind=3):flatT h=unit h:=by simp [flatT,hk]
theorem left_4 {h:Rs.Item} (hk:h.kind=4):left h= {h with days:=week0}:=by simp [left,hk]
theorem flat_4 {h:Rs.Item} (hk:h.kind=4):flatT h=weekend h:=by simp [flatT,hk]
theorem left_5 {h:Rs.Item} (hk:h.kind=5):left h= {h with dates:= []}:=by simp [left,hk]
theorem flat_5 {h:Rs.Item} (hk:h.kind=5):flatT h=holiday h:=by simp [flatT,hk]
theorem left_6 {h:Rs.Item} (hk:h.kind=6):left h= {h with name:= [],within:=daysLeft h.within}:=by simp [left,hk]
theorem flat_6 {h:Rs.Item} (hk:h.kind=6):flatT h=spanDef h:=by simp [flatT,hk]
theorem left_7 {h:Rs.Item} (hk:h.kind=7):left h= {amountLeft h with name:= []}:=by simp [left,hk]
theorem flat_7 {h:Rs.Item} (hk:h.kind=7):flatT h=sumDef h:=by simp [flatT,hk]
theorem left_8 {h:Rs.Item} (hk:h.kind=8):left h=actLeft h:=by simp [left,hk,actLeft]
theorem flat_8 {h:Rs.Item} (hk:h.kind=8):flatT h=act h:=by simp [flatT,hk]
theorem left_9 {h:Rs.Item} (hk:h.kind=9):left h=dutyLeft h:=by simp [left,hk,dutyLeft]
theorem flat_9 {h:Rs.Item} (hk:h.kind=9):flatT h=duty h:=by simp [flatT,hk]
theorem left_10 {h:Rs.Item} (hk:h.kind=10):left h=consLeft (circLeft {h with name:= [],of_:= [],act:= [],within:=spanLeft h.within}):=by simp [left,hk]
theorem flat_10 {h:Rs.Item} (hk:h.kind=10):flatT h=ban h:=by simp [flatT,hk]
theorem left_11 {h:Rs.Item} (hk:h.kind=11):left h=circLeft {h with name:= [],of_:= [],act:= [],within:=spanLeft h.within}:=by simp [left,hk]
theorem flat_11 {h:Rs.Item} (hk:h.kind=11):flatT h=option h:=by simp [flatT,hk]
theorem left_12 {h:Rs.Item} (hk:h.kind=12):left h=circLeft {h with name:= [],act:= [],within:=spanLeft h.within}:=by simp [left,hk]
theorem flat_12 {h:Rs.Item} (hk:h.kind=12):flatT h=watch h:=by simp [flatT,hk]
theorem left_14 {h:Rs.Item} (hk:h.kind=14):left h= {h with of_:= [],name:= [],names:= []}:=by simp [left,hk]
theorem flat_14 {h:Rs.Item} (hk:h.kind=14):flatT h=incl h:=by simp [flatT,hk]
theorem writer_any {G:Nat} {P:Nat→Prop} {b:Nat} {k:Value} {s:St} {w:World} {i:Nat} {h:Rs.Item} {c d n l:Value} {tl:List DT} (kn:Nat) (h1:1≤kn) (h2:kn≤14) (h13:kn≠13) (hk:h.kind=(kn:Int)) (hw:WQ P i G b k s w) (hi: ¬P i) (hG: ∀q,q<G→P q) (hb:w.heap[i]?=some (.cells (Rs.icells h c d n l).toArray 49 (0,0))) (ho:Ok h) (hL:Lay P w (.node h c d n l tl)) (hn:s.n+cost h≤lim):
  Calls Tryz.prog (fid kn) #[.pointer (some ⟨b,0,none⟩),.pointer (some ⟨i,0,none⟩)] w (Out P (flatT h) (fun ts w'=>WQ P i G b k (s.app ts) w'∧ ∃c' d' n',SF (left h).conds.length c'∧SF (left h).dates.length d'∧SF (left h).names.length n'∧w'.heap[i]?=some (.cells (Rs.icells (left h) c' d' n' l).toArray 49 (0,0))) w):=by
 obtain ⟨A1,q1,hc,_,_⟩:=hL.conds.slice
 obtain ⟨A2,q2,hd,_,_⟩:=hL.dates.slice
 obtain ⟨A3,q3,hnm,_,_⟩:=hL.names.slice
 rw [List.length_map] at hc hd hnm
 have hc:c= .slice A1 h.conds.length q1:=hc
 have hd:d= .slice A2 h.dates.length q2:=hd
 have hnm:n= .slice A3 h.names.length q3:=hnm
 have kc:SF h.conds.length c:=⟨_,_,hc⟩
 have kd:SF h.dates.length d:=⟨_,_,hd⟩
 have kn':SF h.names.length n:=⟨_,_,hnm⟩
 unfold cost at hn
 match kn,h1,h2,h13 with
 |1,_,_,_=>
  refine (party_any hw hi hG hb ho (by omega)).mono ?_
  intro e w' h0
  refine h0.imp (flat_1 hk).symm (fun ts u hu=>⟨hu.1,c,d,n,?_,?_,?_,?_⟩)
  all_goals rw [left_1 hk]
  ·exact kc
  ·exact kd
  ·exact kn'
  ·exact hu.2
 |2,_,_,_=>
  refine (role_any hw hi hG hb ho (by omega)).mono ?_
  intro e w' h0
  refine h0.imp (flat_2 hk).symm (fun ts u hu=>⟨hu.1,c,d,n,?_,?_,?_,?_⟩)
  all_goals rw [left_2 hk]
  ·exact kc
  ·exact kd
  ·exact kn'
  ·exact hu.2
 |3,_,_,_=>
  refine (unit_any hw hi hG hb ho (by omega)).mono ?_
  intro e w' h0
  refine h0.imp (flat_3 hk).symm (fun ts u hu=>⟨hu.1,c,d,n,?_,?_,?_,?_⟩)
  all_goals rw [left_3 hk]
  ·rw [(unit_conds h).1];exact kc
  ·rw [(unit_conds h).2.1];exact kd
  ·rw [(unit_conds h).2.2];exact kn'
  ·exact hu.2
 |4,_,_,_=>
  refine (weekend_any hw hi hG hb ho (by omega)).mono ?_
  intro e w' h0
  refine h0.imp (flat_4 hk).symm (fun ts u hu=>⟨hu.1,c,d,n,?_,?_,?_,?_⟩)
  all_goals rw [left_4 hk]
  ·exact kc
  ·exact kd
  ·exact kn'
  ·exact hu.2
 |5,_,_,_=>
  refine (holiday_any hw hi hG hb ho hL.dates (by omega)).mono ?_
  intro e w' h0
  refine h0.imp (flat_5 hk).symm (fun ts u hu=>⟨hu.1,c,(.slice none 0 0),n,?_,?_,?_,?_⟩)
  all_goals rw [left_5 hk]
  ·exact kc
  ·exact SF.nil
  ·exact kn'
  ·exact hu.2
 |6,_,_,_=>
  refine (spanDef_any hw hi hG hb ho (by omega)).mono ?_
  intro e w' h0
  refine h0.imp (flat_6 hk).symm (fun ts u hu=>⟨hu.1,c,d,n,?_,?_,?_,?_⟩)
  all_goals rw [left_6 hk]
  ·exact kc
  ·exact kd
  ·exact kn'
  ·exact hu.2
 |7,_,_,_=>
  refine (sumDef_any hw hi hG hb ho (by omega)).mono ?_
  intro e w' h0
  refine h0.imp (flat_7 hk).symm (fun ts u hu=>⟨hu.1,c,d,n,?_,?_,?_,?_⟩)
  all_goals rw [left_7 hk]
  ·exact kc
  ·exact kd
  ·exact kn'
  ·exact hu.2
 |8,_,_,_=>
  refine (act_any hw hi hG hb ho (by omega)).mono ?_
  intro e w' h0
  refine h0.imp (flat_8 hk).symm (fun ts u hu=>⟨hu.1,c,d,n,?_,?_,?_,?_⟩)
  all_goals rw [left_8 hk]
  ·rw [(act_conds h).1];exact kc
  ·rw [(act_conds h).2.1];exact kd
  ·rw [(act_conds h).2.2];exact kn'
  ·exact hu.2
 |9,_,_,_=>
  refine (duty_any hw hi hG hb ho (by omega) hL.conds).mono ?_
  intro e w' h0
  refine h0.imp (flat_9 hk).symm (fun ts u hu=>⟨hu.1,(.slice none 0 0),d,n,?_,?_,?_,?_⟩)
  all_goals rw [left_9 hk]
  ·unfold dutyLeft;rw [(jj2 _).1,(jz7 _).1];exact SF.nil
  ·unfold dutyLeft;rw [(jj2 _).2.1,(jz7 _).2.1];exact kd
  ·unfold dutyLeft;rw [(jj2 _).2.2,(jz7 _).2.2];exact kn'
  ·exact hu.2
 |10,_,_,_=>
  refine (ban_any hw hi hG hb ho (by omega) hL.conds).mono ?_
  intro e w' h0
  refine h0.imp (flat_10 hk).symm (fun ts u hu=>⟨hu.1,(.slice none 0 0),d,n,?_,?_,?_,?_⟩)
  all_goals rw [left_10 hk]
  ·rw [(jj2 _).1,(jz7 _).1];exact SF.nil
  ·rw [(jj2 _).2.1,(jz7 _).2.1];exact kd
  ·rw [(jj2 _).2.2,(jz7 _).2.2];exact kn'
  ·exact hu.2
 |11,_,_,_=>
  refine (option_any hw hi hG hb ho (by omega) hL.conds).mono ?_
  intro e w' h0
  refine h0.imp (flat_11 hk).symm (fun ts u hu=>⟨hu.1,(.slice none 0 0),d,n,?_,?_,?_,?_⟩)
  all_goals rw [left_11 hk]
  ·rw [(jz7 _).1];exact SF.nil
  ·rw [(jz7 _).2.1];exact kd
  ·rw [(jz7 _).2.2];exact kn'
  ·exact hu.2
 |12,_,_,_=>
  refine (watch_any hw hi hG hb ho (by omega) hL.conds).mono ?_
  intro e w' h0
  refine h0.imp (flat_12 hk).symm (fun ts u hu=>⟨hu.1,(.slice none 0 0),d,n,?_,?_,?_,?_⟩)
  all_goals rw [left_12 hk]
  ·rw [(jz7 _).1];exact SF.nil
  ·rw [(jz7 _).2.1];exact kd
  ·rw [(jz7 _).2.2];exact kn'
  ·exact hu.2
 |14,_,_,_=>
  refine (incl_any hw hi hG hb ho (by omega) hL.names).mono ?_
  intro e w' h0
  refine h0.imp (flat_14 hk).symm (fun ts u hu=>⟨hu.1,c,d,(.slice none 0 0),?_,?_,?_,?_⟩)
  all_goals rw [left_14 hk]
  ·exact kc
  ·exact kd
  ·exact SF.nil
  ·exact hu.2
end Go.Proofs.YtfficindoecpfaaGreatDoor.Pt
namespace Go.Proofs.YtfficindoecpfaaGreatDoor.Pt
open Go.RowKit Mem Vw
open Ic (RowB DT Lay jv9)
def flatI (x:DT):T:=match flatT x.h with
 |none=>none
 |some l=>if blank (left x.h)∧x.l= [] then some l else none
def St.item (s:St):St:= {s with items:=s.items+1,n:=s.n+1}
structure Fine (x:DT):Prop where
 ok:Ok x.h
 days:x.h.days.length=7
 len:x.l.length≤1048576
 conds:x.h.conds.length≤1048576
 dates:x.h.dates.length≤1048576
 names:x.h.names.length≤1048576
theorem left_days {h:Rs.Item} (hd:h.days.length=7):(left h).days.length=7:=by
 have hc: ∀y:Rs.Item,(circLeft y).days=y.days:=fun y=>by unfold circLeft;split<;>rfl
 have hs: ∀y:Rs.Item,(consLeft y).days=y.days:=fun y=>by
  unfold consLeft
  split
  ·rfl
  ·split<;>rfl
 have ite: ∀ {p:Prop} [Decidable p] {a b:Rs.Item},a.days.length=7→b.days.length=7→(if p then a else b).days.length=7:=fun h1 h2=>by split<;>assumption
 unfold left
 repeat' (first|exact hd|exact rfl|(rw [hs];done)|(rw [hs,hc];exact hd)|(rw [hc];exact hd)|refine ite ?_ ?_)
theorem left_lens {h:Rs.Item} (M:Nat) (hc:h.conds.length≤M) (hd:h.dates.length≤M) (hn:h.names.length≤M):(left h).conds.length≤M∧(left h).dates.length≤M∧(left h).names.length≤M:=by
 have h1: ∀y:Rs.Item,(circLeft y).conds.length≤M:=fun y=>by rw [(jz7 y).1];exact Nat.zero_le _
 have ite: ∀ {p:Prop} [Decidable p] {a b:Rs.Item},(a.conds.length≤M∧a.dates.length≤M∧a.names.length≤M)→(b.conds.length≤M∧b.dates.length≤M∧b.names.length≤M)→((if p then a else b).conds.length≤M∧(if p then a else b).dates.length≤M∧(if p then a else b).names.length≤M):=fun h1 h2=>by split<;>assumption
 have a1: ∀y:Rs.Item,(y.dates.length≤M∧y.names.length≤M)→((circLeft y).conds.length≤M∧(circLeft y).dates.length≤M∧(circLeft y).names.length≤M):=fun y hy=>⟨h1 y,by rw [(jz7 y).2.1];exact hy.1,by rw [(jz7 y).2.2];exact hy.2⟩
 have a2: ∀y:Rs.Item,(y.conds.length≤M∧y.dates.length≤M∧y.names.length≤M)→((consLeft y).conds.length≤M∧(consLeft y).dates.length≤M∧(consLeft y).names.length≤M):=fun y hy=>⟨by rw [(jj2 y).1];exact hy.1,by rw [(jj2 y).2.1];exact hy.2.1,by rw [(jj2 y).2.2];exact hy.2.2⟩
 unfold left
 repeat' (first|exact ⟨hc,hd,hn⟩|exact ⟨hc,Nat.zero_le _,hn⟩|exact ⟨hc,hd,Nat.zero_le _⟩|exact a2 _ (a1 _ ⟨hd,hn⟩)|exact a1 _ ⟨hd,hn⟩|refine ite ?_ ?_)
theorem week_le {l:List Bool}:LeT (weekT l) 14:=by
 unfold weekT
 refine LeT.ite (LeT.none _) ?_
 refine (commas_le (m:=1) (fun i=>LeT.ok [_]) _ _).mono ?_
 have:(weekDays l).length≤7:=by
  unfold weekDays
  exact Nat.le_trans (List.length_filter_le _ _) (by decide)
 omega
theorem flat_cost (h:Rs.Item) {ts:List Rs.Bytes} (ht:flatT h=some ts):ts.length≤cost h:=by
 have key:LeT (flatT h) (cost h):=by
  unfold flatT cost
  refine LeT.ite ?_ (LeT.ite ?_ (LeT.ite ?_ (LeT.ite ?_ (LeT.ite ?_ (LeT.ite ?_ (LeT.ite ?_ (LeT.ite ?_ (LeT.ite ?_ (LeT.ite ?_ (LeT.ite ?_ (LeT.ite ?_ (LeT.ite ?_ (LeT.none _)))))))))))))
  ·exact (LeT.cat jz8 (LeT.ok [_])).mono (by simp<;>omega)
  ·exact (LeT.cat jz8 (LeT.cat (LeT.ok [_]) (LeT.cat jx7 (LeT.ok [_])))).mono (by simp<;>omega)
  ·exact (LeT.cat jz8 (LeT.cat (m:=1) (LeT.ite (LeT.ok [_]) (LeT.ite (LeT.ok [_]) (LeT.none _))) (LeT.cat (m:=5) (LeT.ite ((LeT.ok []).mono (by decide:_≤5)) (LeT.cat (LeT.ok [_]) jj5)) (LeT.ok [_])))).mono (by simp<;>omega)
  ·exact (LeT.cat (LeT.ok [_]) (LeT.cat week_le (LeT.ok [_]))).mono (by simp<;>omega)
  ·exact LeT.ite (LeT.none _) ((LeT.cat (LeT.ok [_]) (LeT.cat (commas_le (fun x=>date_le) _ _) (LeT.ok [_]))).mono (by simp<;>omega))
  ·exact (LeT.cat jz8 (LeT.cat (LeT.ok [_]) (LeT.cat days_le (LeT.ok [_])))).mono (by simp<;>omega)
  ·exact (LeT.cat jz8 (LeT.cat (LeT.ok [_]) (LeT.cat jj5 (LeT.ok [_])))).mono (by simp<;>omega)
  ·refine (LeT.cat jz8 (LeT.cat (LeT.ok [_]) (LeT.cat (m:=1) ?_ (LeT.cat (m:=8) ?_ (LeT.ok [_]))))).mono (by simp<;>omega)
   ·exact LeT.ite (LeT.none _) (LeT.ite (LeT.ok [_]) jx7)
   ·exact LeT.ite ((LeT.cat (LeT.ok [_]) (LeT.cat jx7 (LeT.cat (LeT.ok [_]) jx7))).mono (by simp)) (LeT.ite ((LeT.cat (LeT.ite ((LeT.ok []).mono (by decide:_≤5)) (LeT.cat (LeT.ok [_]) jj5)) (LeT.ite ((LeT.ok []).mono (by decide:_≤2)) (LeT.cat (LeT.ok [_]) jx7))).mono (by simp)) (LeT.none _))
  ·exact (LeT.cat jz8 (LeT.cat kz4 (LeT.cat (LeT.ite ((LeT.ok []).mono (by decide:_≤2)) (LeT.cat jv2 (LeT.ok [_]))) (LeT.cat (LeT.ok [_]) (LeT.cat jk8 (LeT.cat (LeT.ite ((LeT.ok []).mono (by decide:_≤5)) (LeT.cat (LeT.ok [_]) jk8)) (LeT.cat kq9 (LeT.cat cons_le (LeT.ok [_]))))))))).mono (by simp<;>omega)
  ·exact (LeT.cat jz8 (LeT.cat kz4 (LeT.cat (LeT.ok [_]) (LeT.cat jk8 (LeT.cat kq9 (LeT.cat cons_le (LeT.ok [_]))))))).mono (by simp<;>omega)
  ·exact (LeT.cat jz8 (LeT.cat kz4 (LeT.cat (LeT.ok [_]) (LeT.cat jk8 (LeT.cat kq9 (LeT.ok [_])))))).mono (by simp<;>omega)
  ·exact (LeT.cat jz8 (LeT.cat (LeT.ok [_]) (LeT.cat jx7 (LeT.cat (LeT.ok [_]) (LeT.cat jk8 (LeT.cat kq9 (LeT.ok [_]))))))).mono (by simp<;>omega)
  ·exact (LeT.cat (LeT.ok [_]) (LeT.cat jx7 (LeT.cat (LeT.ok [_]) (LeT.cat jx7 (LeT.cat names_le (LeT.ok [_])))))).mono (by simp<;>omega)
 exact key ts ht
theorem item_no {G:Nat} {P:Nat→Prop} {b:Nat} {k:Value} {s:St} {w:World} (hw:WR G P b k s w) (x:DT) (hL:Lay P w x) (mb clock:Nat) (es:Array MapEntry) (hm:w.heap[mb]?=some (.map es clock)) (hf:Instr.findNow (.int .i64) (.int .i64 x.h.kind) es.toList 0=some none):
  Calls Tryz.prog 44 #[.pointer (some ⟨b,0,none⟩),.map (some mb),.agg x.cells.toArray] w fun e w'=>e= .panicked PI∧FN P w w':=by
 obtain ⟨w0,hw0⟩: ∃u,w.alloc (.cells x.cells.toArray 49)=u:=⟨_,rfl⟩
 obtain ⟨i,HII⟩: ∃q,Hid (w.heap.size=q):=⟨_,rfl⟩
 have HFA:Hid (Fr (fun _=>False) w w0):=by rw [←hw0];exact (Fr.refl _ w).alloc _
 have HB0:Hid (w0.heap[i]?=some (.cells x.cells.toArray 49 (0,0))):=by rw [←hw0];exact jq2 HII.o.symm
 have hm0:w0.heap[mb]?=some (.map es clock):=HFA.o.blk hm (fun e=>e)
 have c0:w0.cell? ⟨i,0,none⟩=some (.int .i64 x.h.kind):=by rw [jq0 HB0.o,DT.cells_eq];rfl
 have hlk:=run_look_no hm0 hf
 have HW0:=hdd hw0
 clear hw0 hm hm0 hw hL
 go_enter Tryz.func44,Tryz.ntmps44
 go_upto_region 1 with fail
 rw [HW0.o,HII.o]
 clear HW0
 go_wp2_with fail
 exact ⟨rfl,rfl,HFA.o.mono (fun _ _ e=>e.elim)⟩
theorem item_flat {G:Nat} {P:Nat→Prop} {b:Nat} {k:Value} {s:St} {w:World} (hw:WR G P b k s w) (x:DT) (hL:Lay P w x) (hx:Fine x) (kn:Nat) (h1:1≤kn) (h2:kn≤14) (h13:kn≠13) (hk:x.h.kind=(kn:Int)) (mb clock:Nat) (es:Array MapEntry) (hm:w.heap[mb]?=some (.map es clock)) (hf: ∃j,Instr.findNow (.int .i64) (.int .i64 (kn:Int)) es.toList 0=some (some (j,.func (.func (fid kn)) #[] #[])))
  (hn:s.n+2*cost x.h+10≤lim):
  Calls Tryz.prog 44 #[.pointer (some ⟨b,0,none⟩),.map (some mb),.agg x.cells.toArray] w (Out P (flatI x) (fun ts w'=>WR G P b k (s.item.app ts).line w'∧ts.length≤cost x.h) w):=by
 obtain ⟨w0,hw0⟩: ∃u,w.alloc (.cells x.cells.toArray 49)=u:=⟨_,rfl⟩
 obtain ⟨i,HII⟩: ∃q,Hid (w.heap.size=q):=⟨_,rfl⟩
 have HFA:Hid (Fr (fun _=>False) w w0):=by rw [←hw0];exact (Fr.refl _ w).alloc _
 have HB0:Hid (w0.heap[i]?=some (.cells x.cells.toArray 49 (0,0))):=by rw [←hw0];exact jq2 HII.o.symm
 have HWR0:Hid (WQ P i G b k s w0):=hw.ext HFA.o (by rw [HII.o];exact Nat.le_refl _) (jq7 HB0.o)
 have HI:Hid (¬P i):=fun e=>by have h1:=hw.lt i e;have h2:=HII.o;omega
 have HG:=hdd hw.low
 have HL:=hdd (hL.fr HFA.o (fun _ _ e=>e))
 have hm0:w0.heap[mb]?=some (.map es clock):=HFA.o.blk hm (fun e=>e)
 have c0:w0.cell? ⟨i,0,none⟩=some (.int .i64 (kn:Int)):=by rw [jq0 HB0.o,DT.cells_eq,←hk];rfl
 obtain ⟨jj,hf⟩:=hf
 have hlk:=run_look hm0 hf
 have HENT:=hdd (ent_fid kn h1 h2)
 have HX:=hdd hx
 have HK:=hdd hk
 have HW0:=hdd hw0
 obtain ⟨h,c,d,n,l,tl⟩:=x
 obtain ⟨Al,ql,hl,_,_⟩:=hL.items.slice
 have HSL:Hid (SF tl.length l):=⟨_,_,hl⟩
 have HN:Hid (s.n+2*cost h+10≤lim):=hn
 have HKN:Hid (1≤kn∧kn≤14∧kn≠13):=⟨h1,h2,h13⟩
 clear hw0 hm hm0 hw hL hf hx hk hl h1 h2 h13 hn
 obtain ⟨d5,d6,c4',d7,c4,f4,c6⟩:=jj8 HWR0.o
 have it0:(0:Int)≤(s.items:Int):=Int.natCast_nonneg _
 have it1:(s.items:Int)≤1099511627776:=by have h1:=HWR0.o.ok.items;have h2:=HWR0.o.ok.lim;unfold lim at h2;omega
 clear d5 d6 c4' d7 c6
 go_enter Tryz.func44,Tryz.ntmps44
 go_upto_region 1 with fail
 rw [HW0.o,HII.o]
 clear HW0
 go_wp2_with fail
 rw [HENT.o,Oper.upon_enter]
 obtain ⟨g1,g2⟩:=set_items HWR0.o (by have:=HN.o;omega)
 obtain ⟨w1,hw1⟩: ∃u,w0.setCell ⟨b,4,none⟩ (.int .i64 ((s.items:Int)+1))=u:=⟨_,rfl⟩
 have hwr:IntKind.i64.wrap ((s.items:Int)+1)=(s.items:Int)+1:=Go.IntWalk.i64_in _ (by omega)
 rw [hw1]
 rw [hw1] at g1 g2
 have HW1:=hdd g1
 have HF1:Hid (FN P w w1):=(HFA.o.mono (T:=fun q=> ¬P q) (fun _ _ e=>e.elim)).trans (g2.mono (fun q _ e e2=>e (.inl e2)))
 have HB1:Hid (w1.heap[i]?=some (.cells (Rs.icells h c d n l).toArray 49 (0,0))):=g2.blk HB0.o (fun e=>e (.inr rfl))
 have HL1:Hid (Lay P w1 (.node h c d n l tl)):=HL.o.fr g2 (fun q hq e=>e (.inl hq))
 clear g1 g2 hw1 c0 hlk c4 f4 hwr it0 it1
 refine (writer_any kn HKN.o.1 HKN.o.2.1 HKN.o.2.2 HK.o HW1.o HI.o HG.o HB1.o HX.o.ok HL1.o (by have:=HN.o;show s.n+1+cost h≤lim;omega)).mono ?_
 rintro e w2 (⟨ht,rfl,hf⟩|⟨ts,ht,rfl,⟨g1,c',d',n',sc,sd,sn,hb⟩,hf⟩)
 ·exact ⟨rfl,.inl ⟨by show flatI (DT.node h c d n l tl)=none;unfold flatI;rw [show flatT (DT.node h c d n l tl).h=none from ht],rfl,HF1.o.trans hf⟩⟩
 have HT:=hdd ht
 have HTL:Hid (ts.length≤cost h):=flat_cost _ ht
 have HW2:Hid (WQ P i G b k (s.item.app ts) w2):=g1
 have HF2:Hid (FN P w w2):=HF1.o.trans hf
 have HB2:=hdd hb
 have hlm:tl.length≤9223372036854775807:=Nat.le_trans HX.o.len (by decide)
 have hlc:=left_lens (h:=h) 9223372036854775807 (Nat.le_trans HX.o.conds (by decide)) (Nat.le_trans HX.o.dates (by decide)) (Nat.le_trans HX.o.names (by decide))
 have HBL:=fun u:World=>isBlank_any (left h) c' d' n' l tl.length u sc sd sn HSL.o (left_days HX.o.days) hlc.1 hlc.2.1 hlc.2.2 hlm
 have HBK:=hdd HBL
 have HONE:Hid ((Rs.icells (left h) c' d' n' l).toArray.all (·.oneCell')=true):=by
  obtain ⟨_,_,rfl⟩:=sc
  obtain ⟨_,_,rfl⟩:=sd
  obtain ⟨_,_,rfl⟩:=sn
  obtain ⟨_,_,rfl⟩:=HSL.o
  show _=true
  simp [Rs.icells,Value.oneCell',Rs.sv,Rs.nv]
 clear g1 hf hb ht sc sd sn HBL hlm hlc
 go_upto_region 6 with fail
 iterate 1 go_step
 refine wpList_load_row rfl 49 _ rfl i rfl 49 (Rs.icells (left h) c' d' n' l).toArray (0,0) _ HB2.o Tryz.underlying49 rfl (by rw [Ic.info_item];rfl) ?_
 simp only [Act.put,List.setIfInBounds_toArray,List.set_cons_zero,List.set_cons_succ]
 go_wp2_with fail
 refine (HBK.o w2).mono ?_
 rintro e w3 ⟨rfl,hf3⟩
 have HW3:=hdd (HW2.o.keep hf3)
 have HF3:Hid (FN P w w3):=HF2.o.trans (hf3.mono (fun _ _ e=>e.elim))
 clear hf3 HBK
 by_cases hbl:blank (left h)∧tl.length=0
 ·have HTT:Hid (flatI (.node h c d n l tl)=some ts):=by
   show _=_
   unfold flatI
   rw [show flatT (DT.node h c d n l tl).h=some ts from HT.o]
   exact if_pos ⟨hbl.1,List.length_eq_zero_iff.1 hbl.2⟩
  rw [decide_eq_true hbl]
  clear hbl
  go_wp2_with fail
  refine (kv1 HW3.o (by rw [St.app_n];have:=HN.o;have:=HTL.o;show s.n+1+2*ts.length+1≤lim;omega)).mono ?_
  rintro e w4 ⟨rfl,h1,h2⟩
  have HW4:=hdd h1;have HF4:=hdd h2
  clear h1 h2
  go_wp2_with fail
  go_end0
  exact .inr ⟨ts,HTT.o,rfl,⟨HW4.o.mono (fun q hq=> .inl hq) HG.o,HTL.o⟩,HF3.o.trans (HF4.o.mono (fun q _ e e2=>e (.inl e2)))⟩
 ·have HTT:Hid (flatI (.node h c d n l tl)=none):=by
   show _=_
   unfold flatI
   rw [show flatT (DT.node h c d n l tl).h=some ts from HT.o]
   exact if_neg (fun e=>hbl ⟨e.1,by rw [show tl= [] from e.2];rfl⟩)
  rw [decide_eq_false hbl]
  clear hbl
  go_wp2_with fail
  exact ⟨rfl,.inl ⟨HTT.o,rfl,HF3.o⟩⟩
end Go.Proofs.YtfficindoecpfaaGreatDoor.Pt
namespace Go.Proofs.YtfficindoecpfaaGreatDoor.Pt
open Go.RowKit Mem Vw
open Ic (RowB DT Lay LayL jv9 jv4)
theorem cells_size (x:Ic.DT):x.cells.toArray.size=33:=x.cells_len
def OutS (P:Nat→Prop) (o:Option St) (R:St→World→Prop) (w:World) (e:Ending) (w':World):Prop:=
 (o=none∧e= .panicked PI∧FN P w w')∨ ∃s',o=some s'∧e= .returned (.tuple #[])∧R s' w'∧FN P w w'
def innerStep (s:St) (x:DT):Option St:=if Pt.isInner x.h.kind then (match flatI x with|none=>none|some l=>some (((s.put [32,32]).item.app l).line)) else none
def innerRun:St→List DT→Option St
 |s,[]=>some s
 |s,x::l=>match innerStep s x with|none=>none|some t=>innerRun t l
theorem innerRun_app: ∀(l r:List DT) (s:St),innerRun s (l++r)=match innerRun s l with|none=>none|some t=>innerRun t r
 | [],r,s=>rfl
 |x::l,r,s=>by
  rw [List.cons_append]
  show (match innerStep s x with|none=>none|some t=>innerRun t (l++r))=match (match innerStep s x with|none=>none|some t=>innerRun t l) with|none=>none|some t=>innerRun t r
  cases innerStep s x with
  |none=>rfl
  |some t=>exact innerRun_app l r t
theorem innerRun_none {l:List DT} {s t:St} {j:Nat} {x:DT} (hx:l[j]?=some x) (h1:innerRun s (l.take j)=some t) (h2:innerStep t x=none):innerRun s l=none:=by
 have hj:j<l.length:=(List.getElem?_eq_some_iff.1 hx).1
 have e:l=l.take j++x::l.drop (j+1):=by
  have h3:x=l[j]:=(List.getElem?_eq_some_iff.1 hx).2.symm
  rw [h3,←List.drop_eq_getElem_cons hj,List.take_append_drop]
 rw [e,innerRun_app,h1]
 show innerRun t (x::_)=none
 unfold innerRun
 rw [h2]
theorem innerRun_take {l:List DT} {s t u:St} {j:Nat} {x:DT} (hx:l[j]?=some x) (h1:innerRun s (l.take j)=some t) (h2:innerStep t x=some u):innerRun s (l.take (j+1))=some u:=by
 rw [List.take_add_one,hx,Option.toList_some,innerRun_app,h1]
 show innerRun t [x]=some u
 unfold innerRun
 rw [h2]
 rfl
def costL (l:List DT):Nat:=(l.map fun x=>2*cost x.h+20).sum
theorem costL_take {l:List DT} {j:Nat} {x:DT} (hx:l[j]?=some x):costL (l.take (j+1))=costL (l.take j)+(2*cost x.h+20):=by
 unfold costL
 rw [List.take_add_one,hx,Option.toList_some,List.map_append,List.sum_append]
 simp
theorem costL_le (l:List DT) (j:Nat):costL (l.take j)≤costL l:=by
 have h:costL l=costL (l.take j)+costL (l.drop j):=by
  unfold costL
  rw [←List.sum_append,←List.map_append,List.take_append_drop]
 omega
def tmplS (s:St) (x:DT):Option St:=match head x.h with
 |none=>none
 |some l=>match innerRun (s.app l).line x.l with
  |none=>none
  |some t=>some (t.app [[125]])
theorem template_any {G:Nat} {P:Nat→Prop} {b:Nat} {mi:Nat} {s:St} {w:World} {i:Nat} {h:Rs.Item} {c d n l:Value} {tl:List DT} (hw:WR G (fun q=>P q∨q=i) b (.map (some mi)) s w) (hi: ¬P i) (hG: ∀q,q<G→P q) (hb:w.heap[i]?=some (.cells (Rs.icells h c d n l).toArray 49 (0,0))) (hL:Lay P w (.node h c d n l tl)) (ho:Ok h) (hin: ∀x∈tl,Fine x) (htl:tl.length≤1048576) (hmp:P mi) (hmi:w.heap[mi]?=some (.map innerEnts 5)) (hn:s.n+2*cost h+costL tl+20≤lim):
  Calls Tryz.prog 86 #[.pointer (some ⟨b,0,none⟩),.pointer (some ⟨i,0,none⟩)] w (OutS P (tmplS s (.node h c d n l tl)) (fun s' w'=>WR G (fun q=>P q∨q=i) b (.map (some mi)) s' w'∧s'.n≤s.n+2*cost h+costL tl+10∧w'.heap[i]?=some (.cells (Rs.icells {h with name:= [],names:= []} c d (.slice none 0 0) (.slice none 0 0)).toArray 49 (0,0))) w):=by
 have HRN:=hdd hL.names
 have HRN:Hid (RowB P w n 1 (h.names.map fun x=> [sv x])):=HRN.o
 have HLY:=hdd hL;have HFI:=hdd hin;have HMP:=hdd hmp;have HMI:=hdd hmi
 have hn0:=hdd hn
 have HW0:Hid (WR G (fun q=>P q∨q=i) b (.map (some mi)) s w):=hw;have HI:=hdd hi;have HG:=hdd hG;have HB0:=hdd hb;have HO:=hdd ho
 have HF0:Hid (FN P w w):=Fr.refl _ _
 have hn:s.n+8*h.names.length+200≤lim:=by unfold cost at hn;omega
 clear hw hi hG hb ho hL hin hmp hmi
 go_enter Tryz.func86,Tryz.ntmps86
 go_wp2_with fail
 refine (jj1 HW0.o HI.o HG.o HB0.o (by cases HO.o;constructor<;>first|assumption|(apply jx8;assumption)|exact Nat.zero_le _) (by omega) [116,101,109,112,108,97,116,101] (by decide)).mono ?_
 rintro e w1 (⟨ht,rfl,hf⟩|⟨ts1,ht,rfl,⟨h1,hb⟩,hf⟩)
 ·have ht:begin_ [116,101,109,112,108,97,116,101] h=none:=(by exact ht)
  exact ⟨rfl,.inl ⟨(by show tmplS s (.node h c d n l tl)=none;unfold tmplS;rw [show head (DT.node h c d n l tl).h=none from (by show head h=none;unfold head;rw [ht]<;>rfl)]),rfl,HF0.o.trans hf⟩⟩
 have ht:begin_ [116,101,109,112,108,97,116,101] h=some ts1:=(by exact ht)
 have hl1:ts1.length≤2:=jz8 _ ht
 have HT1:=hdd ht
 obtain ⟨s1,HS1⟩: ∃z,Hid (s.app ts1=z):=⟨_,rfl⟩
 have n1:s1.n≤s.n+2*2:=by rw [←HS1.o,St.app_n];have:=hl1;omega
 have HW1:Hid (WR G (fun q=>P q∨q=i) b (.map (some mi)) s1 w1):=by rw [←HS1.o];exact h1
 have HB1:Hid (w1.heap[i]?=some (OI {h with name:= []} c d n l)):=hb
 have HF1:Hid (FN P w w1):=HF0.o.trans hf
 clear hb ht
 clear h1 hf
 go_wp2_with fail
 refine (names_any HW1.o HI.o HG.o HB1.o (by cases HO.o;constructor<;>first|assumption|(apply jx8;assumption)|exact Nat.zero_le _) (HRN.o.fr HF1.o (fun q hq e=>e hq)) (by show _+4*h.names.length+20≤lim;omega)).mono ?_
 rintro e w2 (⟨ht,rfl,hf⟩|⟨ts2,ht,rfl,⟨h1,hb⟩,hf⟩)
 ·have ht:namesT h.names=none:=(by exact ht)
  exact ⟨rfl,.inl ⟨(by show tmplS s (.node h c d n l tl)=none;unfold tmplS;rw [show head (DT.node h c d n l tl).h=none from (by show head h=none;unfold head;rw [HT1.o,ht]<;>rfl)]),rfl,HF1.o.trans hf⟩⟩
 have ht:namesT h.names=some ts2:=(by exact ht)
 have hl2:ts2.length≤(2*h.names.length+2):=names_le _ ht
 have HT2:=hdd ht
 obtain ⟨s2,HS2⟩: ∃z,Hid (s1.app ts2=z):=⟨_,rfl⟩
 have n2:s2.n≤s1.n+2*(2*h.names.length+2):=by rw [←HS2.o,St.app_n];have:=hl2;omega
 have HW2:Hid (WR G (fun q=>P q∨q=i) b (.map (some mi)) s2 w2):=by rw [←HS2.o];exact h1
 have HB2:Hid (w2.heap[i]?=some (.cells ((Rs.icells ({{h with name:= []} with names:= []}:Rs.Item) c d (.slice none 0 0) l).toArray) 49 (0,0))):=hb
 have HF2:Hid (FN P w w2):=HF1.o.trans hf
 clear hb ht
 clear h1 hf
 go_wp2_with fail
 refine (jq3 HW2.o [[123]] _ rfl _ _ (by decide) (by show s2.n+2*1≤lim;omega)).mono ?_
 rintro e w3 ⟨rfl,h1,hf⟩
 have hl3:([[123]]:List Rs.Bytes).length≤1:=by decide
 obtain ⟨s3,HS3⟩: ∃z,Hid (s2.app [[123]]=z):=⟨_,rfl⟩
 have n3:s3.n≤s2.n+2*1:=by rw [←HS3.o,St.app_n];have:=hl3;omega
 have HW3:Hid (WR G (fun q=>P q∨q=i) b (.map (some mi)) s3 w3):=by rw [←HS3.o];exact h1
 have HB3:Hid (w3.heap[i]?=some (.cells ((Rs.icells ({{h with name:= []} with names:= []}:Rs.Item) c d (.slice none 0 0) l).toArray) 49 (0,0))):=hf.blk HB2.o (fun e=>e (.inr rfl))
 have HF3:Hid (FN P w w3):=HF2.o.trans (hf.mono (fun q _ e e2=>e (.inl e2)))
 clear h1 hf
 obtain ⟨th,hth⟩: ∃z:List Rs.Bytes,ts1++(ts2++([[123]]))=z:=⟨_,rfl⟩
 have HTH:=hdd hth
 clear hth
 have HHD:Hid (head (DT.node h c d n l tl).h=some th):=by rw [←HTH.o];exact (by show head h=some _;unfold head;rw [HT1.o,HT2.o]<;>(first|rfl|simp [cat,ok,natureT,semi]))
 have HSJ:Hid (s.app th=s3):=by show _=_;rw [←HTH.o];rw [←St.app_app,HS1.o,←St.app_app,HS2.o,HS3.o]
 obtain ⟨sz,hsz⟩: ∃z,s3=z:=⟨_,rfl⟩
 rw [hsz] at HSJ HW3 n3
 have HB50:=HB3;have HF50:=HF3;have HW50:=HW3
 have n50:sz.n≤s.n+4*h.names.length+20:=by omega
 obtain ⟨w50,hw50⟩: ∃u,w3=u:=⟨_,rfl⟩
 rw [hw50] at HB50 HF50 HW50
 rw [hw50]
 clear hw50 hsz
 have HNL:Hid (s.n+2*cost h+costL tl+20≤lim∧8*h.names.length+700≤2*cost h):=⟨hn0.out,by show _≤2*cost h;unfold cost;omega⟩
 go_wp2_with fail
 refine (kv1 HW50.o (by have:=HNL.o;omega)).mono ?_
 rintro e w51 ⟨rfl,h1,hf⟩
 obtain ⟨s1,HS1⟩: ∃z,Hid (sz.line=z):=⟨_,rfl⟩
 have n51:s1.n=sz.n+1:=by rw [←HS1.o];rfl
 have HW51:Hid (WR G (fun q=>P q∨q=i) b (.map (some mi)) s1 w51):=by rw [←HS1.o];exact h1
 have HB51:Hid (w51.heap[i]?=some (.cells (Rs.icells ({h with name:= [],names:= []}:Rs.Item) c d (.slice none 0 0) l).toArray 49 (0,0))):=hf.blk HB50.o (fun e=>e (.inr rfl))
 have HF51:Hid (FN P w w51):=HF50.o.trans (hf.mono (fun q _ e e2=>e (.inl e2)))
 have HSB:Hid (s1.n≤s.n+4*h.names.length+21):=by show _≤_;omega
 have HA0:Hid (innerRun s1 (tl.take 0)=some s1):=rfl
 obtain ⟨A,cap,hl,_,_⟩:=HLY.o.items.slice
 have hl:l= .slice A tl.length cap:=hl
 subst hl
 have c32:w51.cell? ⟨i,32,none⟩=some (.slice A tl.length cap):=jq0 HB51.o 32
 have HN0:Hid (s1.n≤s1.n+costL (tl.take 0)):=Nat.le_add_right _ _
 clear h1 hf n50
 go_wp2_with fail
 go_loopw [22] (fun q wr=> ∃(j:Nat) (t:St),q= .int .i64 j∧j≤tl.length∧Hid (innerRun s1 (tl.take j)=some t)∧Hid (t.n≤s1.n+costL (tl.take j))∧Hid (WR G (fun q=>P q∨q=i) b (.map (some mi)) t wr)∧Hid (wr.heap[i]?=some (.cells (Rs.icells ({h with name:= [],names:= []}:Rs.Item) c d (.slice none 0 0) (.slice A tl.length cap)).toArray 49 (0,0)))∧Hid (FN P w wr)) (fun q _=>tl.length-(intOf q).toNat)
 case atStart=>exact ⟨0,s1,rfl,Nat.zero_le _,HA0,HN0,HW51,HB51,HF51⟩
 case round=>
  clear HA0 HN0 HW51 HB51 HF51 c32
  obtain ⟨j,t,rfl,hj,HA,HTN,HW,HB,HF⟩:=hrel
  have i1:(0:Int)≤(j:Int):=Int.natCast_nonneg _
  by_cases hlt:j<tl.length
  ·have i2:(j:Int)<(tl.length:Int):=by omega
   obtain ⟨x,hx⟩: ∃x,tl[j]?=some x:=⟨_,List.getElem?_eq_getElem hlt⟩
   have HLR:Hid (Lay P wr (.node h c d n (.slice A tl.length cap) tl)):=HLY.o.fr HF.o (fun q hq e=>e hq)
   obtain ⟨p0,r0,hA,hpg,hpb,hpat⟩:=HLR.o.items.at hx
   subst hA
   have HX:=hdd hx
   have HAT:=hdd hpat
   have HLX:Hid (Lay P wr x):=HLR.o.inner x (List.mem_of_getElem? hx)
   have HFX:Hid (Fine x):=HFI.o x (List.mem_of_getElem? hx)
   have HLT:Hid (j<tl.length):=hlt
   have HCT:Hid (t.n+(2*cost x.h+20)≤s1.n+costL tl):=by show _≤_;have h1:=HTN.o;have h2:=costL_take hx;have h3:=costL_le tl (j+1);omega
   clear hpg hpb hpat hx hlt
   go_upto_region 6 with fail
   iterate 4 go_step
   refine wpList_load_mid rfl 49 _ rfl p0 (r0+j*33) rfl x.cells _ HAT.o Tryz.underlying49 rfl (jv4 x) ?_
   simp only [Act.put,List.setIfInBounds_toArray,List.set_cons_zero,List.set_cons_succ]
   iterate 3 go_step
   refine wpList_store_row rfl 49 _ _ rfl wr.heap.size x.cells.toArray rfl rfl 49 _ (jq2 rfl) (jv9 x) (cells_size x).symm HLX.o.one ?_
   simp only [Act.put,List.setIfInBounds_toArray,List.set_cons_zero,List.set_cons_succ]
   rw [World.setRow_alloc_new]
   obtain ⟨w2,hu⟩: ∃u,wr.alloc (.cells x.cells.toArray 49)=u:=⟨_,rfl⟩
   obtain ⟨gi,HGI⟩: ∃q,Hid (wr.heap.size=q):=⟨_,rfl⟩
   rw [hu,HGI.o]
   have HFA:Hid (Fr (fun _=>False) wr w2):=by rw [←hu];exact (Fr.refl _ wr).alloc _
   have HGB:Hid (w2.heap[gi]?=some (.cells x.cells.toArray 49 (0,0))):=by rw [←hu];exact jq2 HGI.o.symm
   have HW2:Hid (WR G (fun q=>(P q∨q=i)∨q=gi) b (.map (some mi)) t w2):=HW.o.ext HFA.o (by rw [HGI.o];exact Nat.le_refl _) (jq7 HGB.o)
   have HB2:Hid (w2.heap[i]?=some (.cells (Rs.icells ({h with name:= [],names:= []}:Rs.Item) c d (.slice none 0 0) (.slice (some ⟨p0,r0,none⟩) tl.length cap)).toArray 49 (0,0))):=HFA.o.blk HB.o (fun e=>e)
   clear hu
   go_wp2_with fail
   refine (put_any HW2.o [32,32] (by decide) (by have:=HCT.o;have:=HNL.o;have:=HSB.o;omega)).mono ?_
   rintro e w3 ⟨rfl,h1,hf⟩
   have HW3:=hdd h1
   have HG3:Hid (w3.heap[gi]?=some (.cells x.cells.toArray 49 (0,0))):=hf.blk HGB.o (fun e=>e (.inr rfl))
   have HB3:Hid (w3.heap[i]?=some (.cells (Rs.icells ({h with name:= [],names:= []}:Rs.Item) c d (.slice none 0 0) (.slice (some ⟨p0,r0,none⟩) tl.length cap)).toArray 49 (0,0))):=hf.blk HB2.o (fun e=>e (.inl (.inr rfl)))
   have HF3:Hid (FN P w w3):=(HF.o.trans (HFA.o.mono (fun _ _ e=>e.elim))).trans (hf.mono (fun q _ e e2=>e (.inl (.inl e2))))
   have HLX3:Hid (Lay P w3 x):=HLX.o.fr ((HFA.o.mono (fun _ _ e=>e.elim)).trans hf) (fun q hq e=>e (.inl (.inl hq)))
   clear h1 hf
   go_upto_region 8 with fail
   refine Reg.G.start (by kernel_rfl) ?_
   obtain ⟨wd,HXd⟩: ∃Y,Hid (w3.drew=Y):=⟨_,rfl⟩
   have HF3d:Hid (Fr (fun _=>False) w3 wd):=by rw [←HXd.o];exact (Fr.refl _ w3).drew
   have HFD:Hid (Fr (fun _=>False) wd wd):=Fr.refl _ _
   have HGD:Hid (wd.heap[gi]?=some (.cells x.cells.toArray 49 (0,0))):=HF3d.o.blk HG3.o (fun e=>e)
   have HWD:=hdd (HW3.o.keep HF3d.o)
   have HBD:Hid (wd.heap[i]?=some (.cells (Rs.icells ({h with name:= [],names:= []}:Rs.Item) c d (.slice none 0 0) (.slice (some ⟨p0,r0,none⟩) tl.length cap)).toArray 49 (0,0))):=HF3d.o.blk HB3.o (fun e=>e)
   have HFF:Hid (FN P w wd):=HF3.o.trans (HF3d.o.mono (fun _ _ e=>e.elim))
   have HLD:Hid (Lay P wd x):=HLX3.o.fr HF3d.o (fun _ _ e=>e)
   have HMD:Hid (wd.heap[mi]?=some (.map innerEnts 5)):=HFF.o.blk HMI.o (fun e=>e HMP.o)
   obtain ⟨_,_,_,_,_,_,c6d⟩:=jj8 HWD.o
   rw [HXd.o]
   clear HXd
   refine' Reg.G.pure (i:=0) (v:=_) rfl (by rfl) (by kernel_rfl) (by kernel_rfl) (by kernel_rfl) (fun _ _ _ h=>h) ?hyt1 ?rehyt1
   case hyt1=>exact fun w=>by first|(go_simp;done)|(go_simp;with_reducible rfl)
   simp only [Act.put,List.setIfInBounds_toArray,List.set_cons_zero,List.set_cons_succ]
   refine' Reg.G.pure (i:=1) (v:=_) rfl (by rfl) (by kernel_rfl) (by kernel_rfl) (by kernel_rfl) (fun _ _ _ h=>h) ?hyt2 ?rehyt2
   case hyt2=>exact fun w=>by first|(go_simp;done)|(go_simp;with_reducible rfl)
   simp only [Act.put,List.setIfInBounds_toArray,List.set_cons_zero,List.set_cons_succ]
   refine' Reg.G.pure (i:=2) (v:=_) rfl (by rfl) (by kernel_rfl) (by kernel_rfl) (by kernel_rfl) (fun _ _ _ h=>h) ?hyt3 ?rehyt3
   case hyt3=>exact fun w=>by first|(go_simp;done)|(go_simp;with_reducible rfl)
   simp only [Act.put,List.setIfInBounds_toArray,List.set_cons_zero,List.set_cons_succ]
   refine' Reg.G.pure (i:=3) (v:=_) rfl (by rfl) (by kernel_rfl) (by kernel_rfl) (by kernel_rfl) (fun _ _ _ h=>h) ?hyt4 ?rehyt4
   case hyt4=>exact fun w=>by first|(go_simp;done)|(go_simp;with_reducible rfl)
   simp only [Act.put,List.setIfInBounds_toArray,List.set_cons_zero,List.set_cons_succ]
   refine' Reg.G.take (i:=4) (v:=_) (F:=(fun w=>Fr (fun _=>False) wd w)) rfl (by rfl) (by kernel_rfl) (by kernel_rfl) (by kernel_rfl) (fun _ _ _ h=>h) (HFD.o) ?hyt5 ?rehyt5
   case hyt5=>intro w hw;have kc:=cell_fr2 hw (fun e=>e) c6d;clear hw;first|(go_simp;done)|(go_simp;with_reducible rfl)
   simp only [Act.put,List.setIfInBounds_toArray,List.set_cons_zero,List.set_cons_succ]
   refine' Reg.G.take (i:=5) (v:=_) (F:=(fun w=>Fr (fun _=>False) wd w)) rfl (by rfl) (by kernel_rfl) (by kernel_rfl) (by kernel_rfl) (fun _ _ _ h=>h) (HFD.o) ?hyt6 ?rehyt6
   case hyt6=>intro w hw;refine run_load_row (P:=Tryz.prog) 49 (.tmp 5) ?_ gi ?_ 49 x.cells.toArray _ (hw.blk HGD.o (fun e=>e)) Tryz.underlying49 rfl (jv9 x)<;>rfl
   simp only [Act.put,List.setIfInBounds_toArray,List.set_cons_zero,List.set_cons_succ]
   refine Reg.G.step (j:=6) (m:= [false,false]) [5,4] rfl (by kernel_rfl) rfl (by kernel_rfl) (fun K hK=>?_)
   go_simp
   by_cases hki:Pt.isInner x.h.kind=true
   case neg=>
    have hno: ¬(x.h.kind=9∨x.h.kind=10∨x.h.kind=11∨x.h.kind=12∨x.h.kind=14):=fun e=>hki (by unfold Pt.isInner;rcases e with e|e|e|e|e<;>rw [e]<;>decide)
    refine (item_no HWD.o x (HLD.o.mono (fun q _ hq=> .inl (.inl hq))) mi 5 innerEnts HMD.o (no_inner _ hno)).mono ?_
    rintro e w4 ⟨rfl,hf⟩
    refine ⟨rfl,.inl ⟨?_,rfl,HFF.o.trans (hf.mono (fun q _ e e2=>e (.inl (.inl e2))))⟩⟩
    unfold tmplS
    rw [HHD.o]
    show (match innerRun (s.app th).line tl with|none=>none|some t=>some (t.app [[125]]))=_
    rw [HSJ.o,HS1.o,innerRun_none HX.o HA.o (by unfold innerStep;exact if_neg hki)]
   obtain ⟨kn,hkn,hkc⟩: ∃kn:Nat,x.h.kind=(kn:Int)∧(kn=9∨kn=10∨kn=11∨kn=12∨kn=14):=by
    unfold Pt.isInner at hki
    simp only [Bool.or_eq_true,decide_eq_true_eq] at hki
    rcases hki with (((e|e)|e)|e)|e
    ·exact ⟨9,e,by omega⟩
    ·exact ⟨10,e,by omega⟩
    ·exact ⟨11,e,by omega⟩
    ·exact ⟨12,e,by omega⟩
    ·exact ⟨14,e,by omega⟩
   have HKI:=hdd hki
   refine (item_flat HWD.o x (HLD.o.mono (fun q _ hq=> .inl (.inl hq))) HFX.o kn (by omega) (by omega) (by omega) hkn mi 5 innerEnts HMD.o (look_inner kn hkc) (by have:=HCT.o;have:=HNL.o;have:=HSB.o;show t.n+1+2*cost x.h+10≤lim;omega)).mono ?_
   rintro e w4 (⟨ht,rfl,hf⟩|⟨tx,ht,rfl,⟨h1,hcl⟩,hf⟩)
   ·refine ⟨rfl,.inl ⟨?_,rfl,HFF.o.trans (hf.mono (fun q _ e e2=>e (.inl (.inl e2))))⟩⟩
    unfold tmplS
    rw [HHD.o]
    show (match innerRun (s.app th).line tl with|none=>none|some t=>some (t.app [[125]]))=_
    rw [HSJ.o,HS1.o,innerRun_none HX.o HA.o (by unfold innerStep;rw [if_pos HKI.o,ht])]
   obtain ⟨t2,HT2⟩: ∃z,Hid ((((t.put [32,32]).item.app tx).line)=z):=⟨_,rfl⟩
   have HST:Hid (innerStep t x=some t2):=by show _=_;unfold innerStep;rw [if_pos HKI.o,ht,←HT2.o]
   have HAN:Hid (innerRun s1 (tl.take (j+1))=some t2):=innerRun_take HX.o HA.o HST.o
   have HTN2:Hid (t2.n≤s1.n+costL (tl.take (j+1))):=by
    show _≤_
    have h5:t2.n=t.n+1+1+2*tx.length+1:=by rw [←HT2.o];show ((t.put [32,32]).item.app tx).n+1=_;rw [St.app_n];rfl
    rw [costL_take HX.o,h5];have:=HTN.o;omega
   have HWN:Hid (WR G (fun q=>P q∨q=i) b (.map (some mi)) t2 w4):=by
    rw [←HT2.o]
    exact h1.mono (fun q hq=> .inl hq) (fun q hq=> .inl (HG.o q hq))
   have HBN:Hid (w4.heap[i]?=some (.cells (Rs.icells ({h with name:= [],names:= []}:Rs.Item) c d (.slice none 0 0) (.slice (some ⟨p0,r0,none⟩) tl.length cap)).toArray 49 (0,0))):=hf.blk HBD.o (fun e=>e (.inl (.inr rfl)))
   have HFN:Hid (FN P w w4):=HFF.o.trans (hf.mono (fun q _ e e2=>e (.inl (.inl e2))))
   clear h1 hf ht hkc hkn hki
   refine hK.out _ _ trivial ?_
   clear hK K
   simp only [Act.put,List.setIfInBounds_toArray,List.set_cons_zero,List.set_cons_succ,Reg.Kept]
   refine Reg.G.done (by kernel_rfl) ?_
   go_wp2_with fail
   go_roundw
   case rel=>exact ⟨j+1,t2,by go_num,HLT.o,HAN,HTN2,HWN,HBN,HFN⟩
   case measure=>have:=HLT.o;simp [intOf];omega
  ·obtain rfl:j=tl.length:=by omega
   rw [List.take_length] at HA HTN
   obtain ⟨w60,hw60⟩: ∃u,wr.setCell ⟨i,32,none⟩ (.slice none 0 0)=u:=⟨_,rfl⟩
   have c60:wr.cell? ⟨i,32,none⟩=some (.slice A tl.length cap):=jq0 HB.o 32
   have f60:wr.frozen? ⟨i,32,none⟩=false:=jq1 HB.o 32
   have hf:Fr (fun q=>q=i) wr w60:=by rw [←hw60];exact (Fr.refl (fun q=>q=i) wr).setb 32 _
   have HB60:Hid (w60.heap[i]?=some (.cells (Rs.icells ({h with name:= [],names:= []}:Rs.Item) c d (.slice none 0 0) (.slice none 0 0)).toArray 49 (0,0))):=by rw [←hw60];exact jq9 HB.o 32 _
   have HF60:Hid (FN P w w60):=HF.o.trans (hf.mono (fun q _ e e2=>by have e:q=i:=e;subst e;exact HI.o e2))
   have HW60:Hid (WR G (fun q=>P q∨q=i) b (.map (some mi)) t w60):=HW.o.fr hf (fun q e=>⟨.inr e,by have e:q=i:=e;subst e;exact Nat.le_of_not_lt fun h=>HI.o (HG.o _ h)⟩)
   clear hf
   go_wp2_with fail
   refine (jq3 HW60.o [[125]] _ rfl _ _ (by decide) (by have:=HTN.o;have:=HNL.o;have:=HSB.o;show t.n+2*1≤lim;omega)).mono ?_
   rintro e w61 ⟨rfl,h1,hf⟩
   clear hw60 c60 f60
   go_wp2_with fail
   go_end0
   refine .inr ⟨t.app [[125]],?_,rfl,⟨h1,?_,hf.blk HB60.o (fun e=>e (.inr rfl))⟩,HF60.o.trans (hf.mono (fun q _ e e2=>e (.inl e2)))⟩
   ·unfold tmplS
    rw [HHD.o]
    show (match innerRun (s.app th).line tl with|none=>none|some t=>some (t.app [[125]]))=_
    rw [HSJ.o,HS1.o,HA.o]
   ·rw [St.app_n];have:=HTN.o;have:=HNL.o;have:=HSB.o;show t.n+2*1≤_;omega
end Go.Proofs.YtfficindoecpfaaGreatDoor.Pt
namespace Go.Proofs.YtfficindoecpfaaGreatDoor.Pt
open Go.RowKit Mem Vw
open Ic (RowB DT Lay jv9)
theorem left_13 {h:Rs.Item} (hk:h.kind=13):left h= {h with name:= [],names:= []}:=by
 unfold left
 rw [if_neg (show ¬h.kind=1 by rw [hk];decide),if_neg (show ¬h.kind=2 by rw [hk];decide),if_neg (show ¬h.kind=3 by rw [hk];decide),if_neg (show ¬h.kind=4 by rw [hk];decide),if_neg (show ¬h.kind=5 by rw [hk];decide),if_neg (show ¬h.kind=6 by rw [hk];decide),if_neg (show ¬h.kind=7 by rw [hk];decide),if_neg (show ¬h.kind=8 by rw [hk];decide),if_neg (show ¬h.kind=9 by rw [hk];decide),if_neg (show ¬h.kind=10 by rw [hk];decide),if_neg (show ¬h.kind=11 by rw [hk];decide),if_neg (show ¬h.kind=12 by rw [hk];decide),if_pos hk]
def itemR (s:St) (x:DT):Option St:=if x.h.kind=13 then (match tmplS s.item x with|none=>none|some t=>if blank (left x.h) then some t.line else none) else match flatI x with|none=>none|some l=>some (s.item.app l).line
def costT (x:DT):Nat:=2*cost x.h+costL x.l+30
theorem isBlank_nil (h:Rs.Item) (c d n:Value) (w:World) (hc:SF h.conds.length c) (hd:SF h.dates.length d) (hn:SF h.names.length n) (hdl:h.days.length=7) (hcl:h.conds.length≤9223372036854775807) (hdt:h.dates.length≤9223372036854775807) (hnl:h.names.length≤9223372036854775807):
  Calls Tryz.prog 87 #[.agg (Rs.icells h c d n (.slice none 0 0)).toArray] w fun e w'=>e= .returned (.bool (decide (blank h)))∧Fr (fun _=>False) w w':=by
 refine (isBlank_any h c d n (.slice none 0 0) 0 w hc hd hn SF.nil hdl hcl hdt hnl (Nat.zero_le _)).mono ?_
 rintro e w' ⟨he,hf⟩
 refine ⟨?_,hf⟩
 rw [he]
 have:decide (blank h∧(0:Nat)=0)=decide (blank h):=decide_eq_decide.2 ⟨fun e=>e.1,fun e=>⟨e,rfl⟩⟩
 rw [this]
theorem item_tmpl {G:Nat} {P:Nat→Prop} {b mi:Nat} {s:St} {w:World} (hw:WR G P b (.map (some mi)) s w) (x:DT) (hL:Lay P w x) (hx:Fine x) (hin: ∀y∈x.l,Fine y) (hk:x.h.kind=13) (mb clock:Nat) (es:Array MapEntry) (hm:w.heap[mb]?=some (.map es clock)) (hf: ∃j,Instr.findNow (.int .i64) (.int .i64 13) es.toList 0=some (some (j,.func (.func (fid 13)) #[] #[])))
  (hmp:P mi) (hmi:w.heap[mi]?=some (.map innerEnts 5)) (hn:s.n+costT x≤lim):
  Calls Tryz.prog 44 #[.pointer (some ⟨b,0,none⟩),.map (some mb),.agg x.cells.toArray] w (OutS P (itemR s x) (fun s' w'=>WR G P b (.map (some mi)) s' w'∧s'.n≤s.n+costT x) w):=by
 obtain ⟨w0,hw0⟩: ∃u,w.alloc (.cells x.cells.toArray 49)=u:=⟨_,rfl⟩
 obtain ⟨i,HII⟩: ∃q,Hid (w.heap.size=q):=⟨_,rfl⟩
 have HFA:Hid (Fr (fun _=>False) w w0):=by rw [←hw0];exact (Fr.refl _ w).alloc _
 have HB0:Hid (w0.heap[i]?=some (.cells x.cells.toArray 49 (0,0))):=by rw [←hw0];exact jq2 HII.o.symm
 have HWR0:Hid (WR G (fun q=>P q∨q=i) b (.map (some mi)) s w0):=hw.ext HFA.o (by rw [HII.o];exact Nat.le_refl _) (jq7 HB0.o)
 have HI:Hid (¬P i):=fun e=>by have h1:=hw.lt i e;have h2:=HII.o;omega
 have HG:=hdd hw.low
 have HL:=hdd (hL.fr HFA.o (fun _ _ e=>e))
 have hm0:w0.heap[mb]?=some (.map es clock):=HFA.o.blk hm (fun e=>e)
 have HMI:=hdd (HFA.o.blk hmi (fun e=>e))
 have HMP:=hdd hmp
 have c0:w0.cell? ⟨i,0,none⟩=some (.int .i64 (13:Int)):=by rw [jq0 HB0.o,DT.cells_eq,←hk];rfl
 obtain ⟨jj,hf⟩:=hf
 have hlk:=run_look hm0 hf
 have HENT:=hdd (ent_fid 13 (by decide) (by decide))
 have HX:=hdd hx
 have HIN:=hdd hin
 have HK:=hdd hk
 have HW0:=hdd hw0
 obtain ⟨h,c,d,n,l,tl⟩:=x
 obtain ⟨A1,q1,hc,_,_⟩:=hL.conds.slice
 obtain ⟨A2,q2,hd,_,_⟩:=hL.dates.slice
 rw [List.length_map] at hc hd
 have HK:Hid (h.kind=13):=HK.o
 have HSC:Hid (SF h.conds.length c):=⟨_,_,hc⟩
 have HSD:Hid (SF h.dates.length d):=⟨_,_,hd⟩
 have HN:Hid (s.n+(2*cost h+costL tl+30)≤lim):=hn
 clear hw0 hm hm0 hw hL hf hx hin hk hc hd hmi hmp hn
 obtain ⟨d5,d6,c4',d7,c4,f4,c6⟩:=jj8 HWR0.o
 have it0:(0:Int)≤(s.items:Int):=Int.natCast_nonneg _
 have it1:(s.items:Int)≤1099511627776:=by have h1:=HWR0.o.ok.items;have h2:=HWR0.o.ok.lim;unfold lim at h2;omega
 clear d5 d6 c4' d7 c6
 go_enter Tryz.func44,Tryz.ntmps44
 go_upto_region 1 with fail
 rw [HW0.o,HII.o]
 clear HW0
 go_wp2_with fail
 rw [HENT.o,Oper.upon_enter]
 obtain ⟨g1,g2⟩:=set_items HWR0.o (by have:=HN.o;omega)
 obtain ⟨w1,hw1⟩: ∃u,w0.setCell ⟨b,4,none⟩ (.int .i64 ((s.items:Int)+1))=u:=⟨_,rfl⟩
 have hwr:IntKind.i64.wrap ((s.items:Int)+1)=(s.items:Int)+1:=Go.IntWalk.i64_in _ (by omega)
 rw [hw1]
 rw [hw1] at g1 g2
 have HW1:=hdd g1
 have HF1:Hid (FN P w w1):=(HFA.o.mono (T:=fun q=> ¬P q) (fun _ _ e=>e.elim)).trans (g2.mono (fun q _ e e2=>e (.inl e2)))
 have HB1:Hid (w1.heap[i]?=some (.cells (Rs.icells h c d n l).toArray 49 (0,0))):=g2.blk HB0.o (fun e=>e (.inr rfl))
 have HL1:Hid (Lay P w1 (.node h c d n l tl)):=HL.o.fr g2 (fun q hq e=>e (.inl hq))
 have HM1:Hid (w1.heap[mi]?=some (.map innerEnts 5)):=g2.blk HMI.o (fun e=>e (.inl HMP.o))
 clear g1 g2 hw1 c0 hlk c4 f4 hwr it0 it1
 refine (template_any HW1.o HI.o HG.o HB1.o HL1.o HX.o.ok (fun y hy=>HIN.o y hy) HX.o.len HMP.o HM1.o (by have:=HN.o;show s.n+1+2*cost h+costL tl+20≤lim;omega)).mono ?_
 rintro e w2 (⟨ht,rfl,hf⟩|⟨t,ht,rfl,⟨g1,gn,hb⟩,hf⟩)
 ·have ht:tmplS s.item (.node h c d n l tl)=none:=ht
  exact ⟨rfl,.inl ⟨by show itemR s (DT.node h c d n l tl)=none;unfold itemR;rw [if_pos (show (DT.node h c d n l tl).h.kind=13 from HK.o),ht],rfl,HF1.o.trans hf⟩⟩
 have ht:tmplS s.item (.node h c d n l tl)=some t:=ht
 have HT:=hdd ht
 have HTN:Hid (t.n≤s.n+1+2*cost h+costL tl+10):=gn
 have HW2:Hid (WR G (fun q=>P q∨q=i) b (.map (some mi)) t w2):=g1
 have HF2:Hid (FN P w w2):=HF1.o.trans hf
 have HB2:Hid (w2.heap[i]?=some (.cells (Rs.icells (left h) c d (.slice none 0 0) (.slice none 0 0)).toArray 49 (0,0))):=by rw [left_13 HK.o];exact hb
 have hlc:=left_lens (h:=h) 9223372036854775807 (Nat.le_trans HX.o.conds (by decide)) (Nat.le_trans HX.o.dates (by decide)) (Nat.le_trans HX.o.names (by decide))
 have hcl:(left h).conds=h.conds∧(left h).dates=h.dates∧(left h).names= []:=by rw [left_13 HK.o];exact ⟨rfl,rfl,rfl⟩
 have HBL:=fun u:World=>isBlank_nil (left h) c d (.slice none 0 0) u (by rw [hcl.1];exact HSC.o) (by rw [hcl.2.1];exact HSD.o) (by rw [hcl.2.2];exact SF.nil) (left_days HX.o.days) hlc.1 hlc.2.1 hlc.2.2
 have HBK:=hdd HBL
 have HONE:Hid ((Rs.icells (left h) c d (.slice none 0 0) (.slice none 0 0)).toArray.all (·.oneCell')=true):=by
  obtain ⟨_,_,rfl⟩:=HSC.o
  obtain ⟨_,_,rfl⟩:=HSD.o
  show _=true
  simp [Rs.icells,Value.oneCell',Rs.sv,Rs.nv]
 clear g1 gn hf hb ht HBL hlc hcl
 go_upto_region 6 with fail
 iterate 1 go_step
 refine wpList_load_row rfl 49 _ rfl i rfl 49 (Rs.icells (left h) c d (.slice none 0 0) (.slice none 0 0)).toArray (0,0) _ HB2.o Tryz.underlying49 rfl (by rw [Ic.info_item];rfl) ?_
 simp only [Act.put,List.setIfInBounds_toArray,List.set_cons_zero,List.set_cons_succ]
 go_wp2_with fail
 refine (HBK.o w2).mono ?_
 rintro e w3 ⟨rfl,hf3⟩
 have HW3:=hdd (HW2.o.keep hf3)
 have HF3:Hid (FN P w w3):=HF2.o.trans (hf3.mono (fun _ _ e=>e.elim))
 clear hf3 HBK
 by_cases hbl:blank (left h)
 ·have HTT:Hid (itemR s (.node h c d n l tl)=some t.line):=by
   show itemR s (DT.node h c d n l tl)=_
   unfold itemR
   rw [if_pos (show (DT.node h c d n l tl).h.kind=13 from HK.o),HT.o]
   exact if_pos hbl
  rw [decide_eq_true hbl]
  clear hbl
  go_wp2_with fail
  refine (kv1 HW3.o (by have:=HN.o;have:=HTN.o;omega)).mono ?_
  rintro e w4 ⟨rfl,h1,h2⟩
  have HW4:=hdd h1;have HF4:=hdd h2
  clear h1 h2
  go_wp2_with fail
  go_end0
  exact .inr ⟨t.line,HTT.o,rfl,⟨HW4.o.mono (fun q hq=> .inl hq) HG.o,by show t.n+1≤s.n+(2*cost h+costL tl+30);have:=HTN.o;omega⟩,HF3.o.trans (HF4.o.mono (fun q _ e e2=>e (.inl e2)))⟩
 ·have HTT:Hid (itemR s (.node h c d n l tl)=none):=by
   show itemR s (DT.node h c d n l tl)=none
   unfold itemR
   rw [if_pos (show (DT.node h c d n l tl).h.kind=13 from HK.o),HT.o]
   exact if_neg hbl
  rw [decide_eq_false hbl]
  clear hbl
  go_wp2_with fail
  exact ⟨rfl,.inl ⟨HTT.o,rfl,HF3.o⟩⟩
theorem flatT_no {h:Rs.Item} (hk: ¬ ∃k:Nat,1≤k∧k≤14∧h.kind=(k:Int)):flatT h=none:=by
 have ne: ∀k:Nat,1≤k→k≤14→ ¬h.kind=(k:Int):=fun k h1 h2 e=>hk ⟨k,h1,h2,e⟩
 unfold flatT
 rw [if_neg (show ¬h.kind=1 from ne 1 (by decide) (by decide)),if_neg (show ¬h.kind=2 from ne 2 (by decide) (by decide)),if_neg (show ¬h.kind=3 from ne 3 (by decide) (by decide)),if_neg (show ¬h.kind=4 from ne 4 (by decide) (by decide)),if_neg (show ¬h.kind=5 from ne 5 (by decide) (by decide)),if_neg (show ¬h.kind=6 from ne 6 (by decide) (by decide)),if_neg (show ¬h.kind=7 from ne 7 (by decide) (by decide)),if_neg (show ¬h.kind=8 from ne 8 (by decide) (by decide)),if_neg (show ¬h.kind=9 from ne 9 (by decide) (by decide)),if_neg (show ¬h.kind=10 from ne 10 (by decide) (by decide)),if_neg (show ¬h.kind=11 from ne 11 (by decide) (by decide)),if_neg (show ¬h.kind=12 from ne 12 (by decide) (by decide)),if_neg (show ¬h.kind=14 from ne 14 (by decide) (by decide))]
theorem item_any {G:Nat} {P:Nat→Prop} {b mi:Nat} {s:St} {w:World} (hw:WR G P b (.map (some mi)) s w) (x:DT) (hL:Lay P w x) (hx:Fine x) (hin: ∀y∈x.l,Fine y) (mb:Nat) (hm:w.heap[mb]?=some (.map allEnts 14))
  (hmp:P mi) (hmi:w.heap[mi]?=some (.map innerEnts 5)) (hn:s.n+costT x≤lim):
  Calls Tryz.prog 44 #[.pointer (some ⟨b,0,none⟩),.map (some mb),.agg x.cells.toArray] w (OutS P (itemR s x) (fun s' w'=>WR G P b (.map (some mi)) s' w'∧s'.n≤s.n+costT x) w):=by
 by_cases h13:x.h.kind=13
 ·exact item_tmpl hw x hL hx hin h13 mb 14 allEnts hm (look_all 13 (by decide) (by decide)) hmp hmi hn
 by_cases hk: ∃k:Nat,1≤k∧k≤14∧x.h.kind=(k:Int)
 ·obtain ⟨k,h1,h2,hk⟩:=hk
  have hne:k≠13:=fun e=>h13 (by rw [hk,e];rfl)
  refine (item_flat hw x hL hx k h1 h2 hne hk mb 14 allEnts hm (look_all k h1 h2) (by unfold costT at hn;omega)).mono ?_
  rintro e w' (⟨ht,he,hf⟩|⟨ts,ht,he,⟨g1,g2⟩,hf⟩)
  ·exact .inl ⟨by unfold itemR;rw [if_neg h13,ht],he,hf⟩
  ·refine .inr ⟨_,by unfold itemR;rw [if_neg h13,ht],he,⟨g1,?_⟩,hf⟩
   show (s.item.app ts).n+1≤s.n+costT x
   rw [St.app_n]
   show s.n+1+2*ts.length+1≤_
   unfold costT
   omega
 ·refine (item_no hw x hL mb 14 allEnts hm (no_all x.h.kind (fun e=>hk ⟨x.h.kind.toNat,by omega,by omega,by omega⟩))).mono ?_
  rintro e w' ⟨he,hf⟩
  refine .inl ⟨?_,he,hf⟩
  unfold itemR flatI
  rw [if_neg h13,flatT_no hk]
end Go.Proofs.YtfficindoecpfaaGreatDoor.Pt
namespace Go.Proofs.YtfficindoecpfaaGreatDoor.Pt
open Go.RowKit Mem Vw
open Ic (RowB DT Lay LayL jv9 jv4)
theorem date_keep {G:Nat} {P:Nat→Prop} {b i:Nat} {k:Value} {s:St} {w:World} {o:Obj} (hw:WQ P i G b k s w) (hb:w.heap[i]?=some o) (c:Rs.Civil) (hn:s.n+20≤lim):
  Calls Tryz.prog 40 #[.pointer (some ⟨b,0,none⟩),.agg (dcells c)] w (Out P (date c) (fun ts w'=>WQ P i G b k (s.app ts) w'∧w'.heap[i]?=some o) w):=by
 refine (date_any hw c hn).mono ?_
 rintro e w' (⟨h1,h2,hf⟩|⟨ts,h1,h2,h3,hf⟩)
 ·exact .inl ⟨h1,h2,hf.mono (fun q _ e e2=>e (.inl e2))⟩
 ·exact .inr ⟨ts,h1,h2,⟨h3,hf.blk hb (fun e=>e (.inr rfl))⟩,hf.mono (fun q _ e e2=>e (.inl e2))⟩
def itemsRun:St→List DT→Option St
 |s,[]=>some s
 |s,x::l=>match itemR s x with|none=>none|some t=>itemsRun t l
theorem itemsRun_app: ∀(l r:List DT) (s:St),itemsRun s (l++r)=match itemsRun s l with|none=>none|some t=>itemsRun t r
 | [],r,s=>rfl
 |x::l,r,s=>by
  rw [List.cons_append]
  show (match itemR s x with|none=>none|some t=>itemsRun t (l++r))=match (match itemR s x with|none=>none|some t=>itemsRun t l) with|none=>none|some t=>itemsRun t r
  cases itemR s x with
  |none=>rfl
  |some t=>exact itemsRun_app l r t
theorem itemsRun_none {l:List DT} {s t:St} {j:Nat} {x:DT} (hx:l[j]?=some x) (h1:itemsRun s (l.take j)=some t) (h2:itemR t x=none):itemsRun s l=none:=by
 have hj:j<l.length:=(List.getElem?_eq_some_iff.1 hx).1
 have e:l=l.take j++x::l.drop (j+1):=by
  have h3:x=l[j]:=(List.getElem?_eq_some_iff.1 hx).2.symm
  rw [h3,←List.drop_eq_getElem_cons hj,List.take_append_drop]
 rw [e,itemsRun_app,h1]
 show itemsRun t (x::_)=none
 unfold itemsRun
 rw [h2]
theorem itemsRun_take {l:List DT} {s t u:St} {j:Nat} {x:DT} (hx:l[j]?=some x) (h1:itemsRun s (l.take j)=some t) (h2:itemR t x=some u):itemsRun s (l.take (j+1))=some u:=by
 rw [List.take_add_one,hx,Option.toList_some,itemsRun_app,h1]
 show itemsRun t [x]=some u
 unfold itemsRun
 rw [h2]
 rfl
def costS (l:List DT):Nat:=(l.map costT).sum
theorem costS_take {l:List DT} {j:Nat} {x:DT} (hx:l[j]?=some x):costS (l.take (j+1))=costS (l.take j)+costT x:=by
 unfold costS
 rw [List.take_add_one,hx,Option.toList_some,List.map_append,List.sum_append]
 simp
theorem costS_le (l:List DT) (j:Nat):costS (l.take j)≤costS l:=by
 have h:costS l=costS (l.take j)+costS (l.drop j):=by
  unfold costS
  rw [←List.sum_append,←List.map_append,List.take_append_drop]
 omega
def srcR (s:St) (x:Ic.Src) (l:List DT):Option St:=match firstT x with
 |none=>none
 |some ts=>itemsRun (s.app ts).line l
theorem source_any {G:Nat} {P:Nat→Prop} {b mi:Nat} {s:St} {wi:World} {x:Ic.Src} {l:List DT} {iv:Value} (hw:WR G P b (.map (some mi)) s wi) (hL:LayL P wi l iv) (hin: ∀y∈l,Fine y∧ ∀z∈y.l,Fine z) (hnm:x.name.length≤9223372036854775807) (hmp:P mi) (hmi:wi.heap[mi]?=some (.map innerEnts 5)) (hn:s.n+costS l+100≤lim):
  Calls Tryz.prog 21 #[.pointer (some ⟨b,0,none⟩),.agg (Rs.scells x.name x.frm x.days iv).toArray] wi (OutS P (srcR s x l) (fun s' w'=>WR G P b (.map (some mi)) s' w'∧s'.n≤s.n+costS l+100) wi):=by
 obtain ⟨w0,hw0⟩: ∃u,wi.alloc (.cells (Rs.scells x.name x.frm x.days iv).toArray 26)=u:=⟨_,rfl⟩
 obtain ⟨i,HII⟩: ∃q,Hid (wi.heap.size=q):=⟨_,rfl⟩
 have HFA:Hid (Fr (fun _=>False) wi w0):=by rw [←hw0];exact (Fr.refl _ wi).alloc _
 have HB0:Hid (w0.heap[i]?=some (.cells (Rs.scells x.name x.frm x.days iv).toArray 26 (0,0))):=by rw [←hw0];exact jq2 HII.o.symm
 have HW0:Hid (WR G (fun q=>P q∨q=i) b (.map (some mi)) s w0):=hw.ext HFA.o (by rw [HII.o];exact Nat.le_refl _) (jq7 HB0.o)
 have HI:Hid (¬P i):=fun e=>by have h1:=hw.lt i e;have h2:=HII.o;omega
 have HG:=hdd hw.low;have HNM:=hdd hnm;have HLY:=hdd hL;have HFI:=hdd hin;have HMP:=hdd hmp;have HMI:=hdd hmi
 have hn0:=hdd hn
 have HF0:Hid (FN P wi w0):=HFA.o.mono (fun _ _ e=>e.elim)
 have HX0:=hdd hw0
 have hn:s.n+100≤lim:=by omega
 clear hw0 hw hL hin hmp hmi hnm HFA
 go_enter Tryz.func21,Tryz.ntmps21
 go_upto_region 1 with fail
 rw [HX0.o,HII.o]
 clear HX0
 obtain ⟨w,hww⟩: ∃u,w0=u:=⟨_,rfl⟩
 rw [hww] at HB0 HW0 HF0
 rw [hww]
 clear hww
 go_wp2_with fail
 refine (jq3 HW0.o [[99,111,110,116,114,97,99,116]] _ rfl _ _ (by decide) (by show s.n+2*1≤lim;omega)).mono ?_
 rintro e w1 ⟨rfl,h1,hf⟩
 have hl1:([[99,111,110,116,114,97,99,116]]:List Rs.Bytes).length≤1:=by decide
 obtain ⟨s1,HS1⟩: ∃z,Hid (s.app [[99,111,110,116,114,97,99,116]]=z):=⟨_,rfl⟩
 have n1:s1.n≤s.n+2*1:=by rw [←HS1.o,St.app_n];have:=hl1;omega
 have HW1:Hid (WR G (fun q=>P q∨q=i) b (.map (some mi)) s1 w1):=by rw [←HS1.o];exact h1
 have HB1:Hid (w1.heap[i]?=some (.cells ((Rs.scells (x.name) x.frm (x.days) iv).toArray) 26 (0,0))):=hf.blk HB0.o (fun e=>e (.inr rfl))
 have HF1:Hid (FN P wi w1):=HF0.o.trans (hf.mono (fun q _ e e2=>e (.inl e2)))
 clear h1 hf
 go_wp2_with fail
 refine (name_any HW1.o HI.o HG.o x.name HB1.o rfl HNM.o (by omega)).mono ?_
 rintro e w2 (⟨ht,rfl,hf⟩|⟨ts2,ht,rfl,⟨h1,hb⟩,hf⟩)
 ·have ht:name x.name=none:=(by exact ht)
  exact ⟨rfl,.inl ⟨(by show srcR s x l=none;unfold srcR;rw [show firstT x=none from (by show firstT x=none;unfold firstT;rw [ht]<;>rfl)]),rfl,HF1.o.trans hf⟩⟩
 have ht:name x.name=some ts2:=(by exact ht)
 have hl2:ts2.length≤1:=jx7 _ ht
 have HT2:=hdd ht
 obtain ⟨s2,HS2⟩: ∃z,Hid (s1.app ts2=z):=⟨_,rfl⟩
 have n2:s2.n≤s1.n+2*1:=by rw [←HS2.o,St.app_n];have:=hl2;omega
 have HW2:Hid (WR G (fun q=>P q∨q=i) b (.map (some mi)) s2 w2):=by rw [←HS2.o];exact h1
 have HB2:Hid (w2.heap[i]?=some (.cells ((Rs.scells ([]) x.frm (x.days) iv).toArray) 26 (0,0))):=hb
 have HF2:Hid (FN P wi w2):=HF1.o.trans hf
 clear hb ht
 clear h1 hf
 go_wp2_with fail
 refine (jq3 HW2.o [[102,114,111,109]] _ rfl _ _ (by decide) (by show s2.n+2*1≤lim;omega)).mono ?_
 rintro e w3 ⟨rfl,h1,hf⟩
 have hl3:([[102,114,111,109]]:List Rs.Bytes).length≤1:=by decide
 obtain ⟨s3,HS3⟩: ∃z,Hid (s2.app [[102,114,111,109]]=z):=⟨_,rfl⟩
 have n3:s3.n≤s2.n+2*1:=by rw [←HS3.o,St.app_n];have:=hl3;omega
 have HW3:Hid (WR G (fun q=>P q∨q=i) b (.map (some mi)) s3 w3):=by rw [←HS3.o];exact h1
 have HB3:Hid (w3.heap[i]?=some (.cells ((Rs.scells ([]) x.frm (x.days) iv).toArray) 26 (0,0))):=hf.blk HB2.o (fun e=>e (.inr rfl))
 have HF3:Hid (FN P wi w3):=HF2.o.trans (hf.mono (fun q _ e e2=>e (.inl e2)))
 clear h1 hf
 have c1:w3.cell? ⟨i,1,none⟩=some (.int .i64 x.frm.y):=jq0 HB3.o 1
 have c2:w3.cell? ⟨i,2,none⟩=some (.int .i64 x.frm.m):=jq0 HB3.o 2
 have c3:w3.cell? ⟨i,3,none⟩=some (.int .i64 x.frm.d):=jq0 HB3.o 3
 go_wp2_with fail
 refine (date_keep HW3.o HB3.o x.frm (by omega)).mono ?_
 rintro e w5 (⟨ht,rfl,hf⟩|⟨ts5,ht,rfl,⟨h1,hb⟩,hf⟩)
 ·have ht:date x.frm=none:=(by exact ht)
  exact ⟨rfl,.inl ⟨(by show srcR s x l=none;unfold srcR;rw [show firstT x=none from (by show firstT x=none;unfold firstT;rw [HT2.o,ht]<;>rfl)]),rfl,HF3.o.trans hf⟩⟩
 have ht:date x.frm=some ts5:=(by exact ht)
 clear c1 c2 c3
 have hl5:ts5.length≤5:=date_le _ ht
 have HT5:=hdd ht
 obtain ⟨s5,HS5⟩: ∃z,Hid (s3.app ts5=z):=⟨_,rfl⟩
 have n5:s5.n≤s3.n+2*5:=by rw [←HS5.o,St.app_n];have:=hl5;omega
 have HW5:Hid (WR G (fun q=>P q∨q=i) b (.map (some mi)) s5 w5):=by rw [←HS5.o];exact h1
 have HB5:Hid (w5.heap[i]?=some (.cells ((Rs.scells ([]) x.frm (x.days) iv).toArray) 26 (0,0))):=hb
 have HF5:Hid (FN P wi w5):=HF3.o.trans hf
 clear hb ht
 clear h1 hf
 go_wp2_with fail
 refine (jq3 HW5.o [[102,111,114]] _ rfl _ _ (by decide) (by show s5.n+2*1≤lim;omega)).mono ?_
 rintro e w6 ⟨rfl,h1,hf⟩
 have hl6:([[102,111,114]]:List Rs.Bytes).length≤1:=by decide
 obtain ⟨s6,HS6⟩: ∃z,Hid (s5.app [[102,111,114]]=z):=⟨_,rfl⟩
 have n6:s6.n≤s5.n+2*1:=by rw [←HS6.o,St.app_n];have:=hl6;omega
 have HW6:Hid (WR G (fun q=>P q∨q=i) b (.map (some mi)) s6 w6):=by rw [←HS6.o];exact h1
 have HB6:Hid (w6.heap[i]?=some (.cells ((Rs.scells ([]) x.frm (x.days) iv).toArray) 26 (0,0))):=hf.blk HB5.o (fun e=>e (.inr rfl))
 have HF6:Hid (FN P wi w6):=HF5.o.trans (hf.mono (fun q _ e e2=>e (.inl e2)))
 clear h1 hf
 go_wp2_with fail
 refine (number_any HW6.o HI.o HG.o x.days HB6.o rfl (by omega)).mono ?_
 rintro e w7 (⟨ht,rfl,hf⟩|⟨ts7,ht,rfl,⟨h1,hb⟩,hf⟩)
 ·have ht:number x.days=none:=(by exact ht)
  exact ⟨rfl,.inl ⟨(by show srcR s x l=none;unfold srcR;rw [show firstT x=none from (by show firstT x=none;unfold firstT;rw [HT2.o,HT5.o,ht]<;>rfl)]),rfl,HF6.o.trans hf⟩⟩
 have ht:number x.days=some ts7:=(by exact ht)
 have hl7:ts7.length≤1:=jv2 _ ht
 have HT7:=hdd ht
 obtain ⟨s7,HS7⟩: ∃z,Hid (s6.app ts7=z):=⟨_,rfl⟩
 have n7:s7.n≤s6.n+2*1:=by rw [←HS7.o,St.app_n];have:=hl7;omega
 have HW7:Hid (WR G (fun q=>P q∨q=i) b (.map (some mi)) s7 w7):=by rw [←HS7.o];exact h1
 have HB7:Hid (w7.heap[i]?=some (.cells ((Rs.scells ([]) x.frm (0) iv).toArray) 26 (0,0))):=hb
 have HF7:Hid (FN P wi w7):=HF6.o.trans hf
 clear hb ht
 clear h1 hf
 go_wp2_with fail
 refine (jq3 HW7.o [[100,97,121,115],[59]] _ rfl _ _ (by decide) (by show s7.n+2*2≤lim;omega)).mono ?_
 rintro e w8 ⟨rfl,h1,hf⟩
 have hl8:([[100,97,121,115],[59]]:List Rs.Bytes).length≤2:=by decide
 obtain ⟨s8,HS8⟩: ∃z,Hid (s7.app [[100,97,121,115],[59]]=z):=⟨_,rfl⟩
 have n8:s8.n≤s7.n+2*2:=by rw [←HS8.o,St.app_n];have:=hl8;omega
 have HW8:Hid (WR G (fun q=>P q∨q=i) b (.map (some mi)) s8 w8):=by rw [←HS8.o];exact h1
 have HB8:Hid (w8.heap[i]?=some (.cells ((Rs.scells ([]) x.frm (0) iv).toArray) 26 (0,0))):=hf.blk HB7.o (fun e=>e (.inr rfl))
 have HF8:Hid (FN P wi w8):=HF7.o.trans (hf.mono (fun q _ e e2=>e (.inl e2)))
 clear h1 hf
 obtain ⟨th,hth⟩: ∃z:List Rs.Bytes,[[99,111,110,116,114,97,99,116]]++(ts2++([[102,114,111,109]]++(ts5++([[102,111,114]]++(ts7++([[100,97,121,115],[59]]))))))=z:=⟨_,rfl⟩
 have HTH:=hdd hth
 clear hth
 have HHD:Hid (firstT x=some th):=by rw [←HTH.o];exact (by show firstT x=some _;unfold firstT;rw [HT2.o,HT5.o,HT7.o]<;>(first|rfl|simp [cat,ok,natureT,semi]))
 have HSJ:Hid (s.app th=s8):=by show _=_;rw [←HTH.o];rw [←St.app_app,HS1.o,←St.app_app,HS2.o,←St.app_app,HS3.o,←St.app_app,HS5.o,←St.app_app,HS6.o,←St.app_app,HS7.o,HS8.o]
 obtain ⟨sz,hsz⟩: ∃z,s8=z:=⟨_,rfl⟩
 rw [hsz] at HSJ HW8 n8
 have HB50:=HB8;have HF50:=HF8;have HW50:=HW8
 have n50:sz.n≤s.n+60:=by omega
 obtain ⟨w50,hw50⟩: ∃u,w8=u:=⟨_,rfl⟩
 rw [hw50] at HB50 HF50 HW50
 rw [hw50]
 clear hw50 hsz
 have HNL:Hid (s.n+costS l+100≤lim):=hn0.out
 go_wp2_with fail
 refine (kv1 HW50.o (by have h1:=HNL.o;omega)).mono ?_
 rintro e w51 ⟨rfl,h1,hf⟩
 obtain ⟨s1,HS1⟩: ∃z,Hid (sz.line=z):=⟨_,rfl⟩
 have n51:s1.n=sz.n+1:=by rw [←HS1.o];rfl
 have HW51:Hid (WR G (fun q=>P q∨q=i) b (.map (some mi)) s1 w51):=by rw [←HS1.o];exact h1
 have HB51:Hid (w51.heap[i]?=some (.cells (Rs.scells [] x.frm 0 iv).toArray 26 (0,0))):=hf.blk HB50.o (fun e=>e (.inr rfl))
 have HF51:Hid (FN P wi w51):=HF50.o.trans (hf.mono (fun q _ e e2=>e (.inl e2)))
 have HSB:Hid (s1.n≤s.n+61):=by show _≤_;omega
 clear h1 hf n50 n51
 go_wp2_with fail
 refine (allKinds_any w51).mono ?_
 rintro e w52 ⟨rfl,h1,hf⟩
 obtain ⟨gm,HGM⟩: ∃q,Hid (w51.heap.size=q):=⟨_,rfl⟩
 rw [HGM.o] at h1
 have HM52:=hdd h1
 have HW52:Hid (WR G (fun q=>(P q∨q=i)∨q=gm) b (.map (some mi)) s1 w52):=HW51.o.ext hf (by rw [HGM.o];exact Nat.le_refl _) (jq7 h1)
 have HB52:Hid (w52.heap[i]?=some (.cells (Rs.scells [] x.frm 0 iv).toArray 26 (0,0))):=hf.blk HB51.o (fun e=>e)
 have HF52:Hid (FN P wi w52):=HF51.o.trans (hf.mono (fun _ _ e=>e.elim))
 rw [HGM.o]
 clear h1 hf
 have HA0:Hid (itemsRun s1 (l.take 0)=some s1):=rfl
 have HN0:Hid (s1.n≤s1.n+costS (l.take 0)):=Nat.le_add_right _ _
 obtain ⟨A,cap,hiv,_,_⟩:=HLY.o.slice
 subst hiv
 have c5:w52.cell? ⟨i,5,none⟩=some (.slice A l.length cap):=jq0 HB52.o 5
 go_wp2_with fail
 go_loopw [35] (fun q wr=> ∃(j:Nat) (t:St),q= .int .i64 j∧j≤l.length∧Hid (itemsRun s1 (l.take j)=some t)∧Hid (t.n≤s1.n+costS (l.take j))∧Hid (WR G (fun q=>(P q∨q=i)∨q=gm) b (.map (some mi)) t wr)∧Hid (wr.heap[gm]?=some (.map allEnts 14))∧Hid (FN P wi wr)) (fun q _=>l.length-(intOf q).toNat)
 case atStart=>exact ⟨0,s1,rfl,Nat.zero_le _,HA0,HN0,HW52,HM52,HF52⟩
 case round=>
  clear HA0 HN0 HW52 HM52 HF52 HB52 c5
  obtain ⟨j,t,rfl,hj,HA,HTN,HW,HM,HF⟩:=hrel
  have i1:(0:Int)≤(j:Int):=Int.natCast_nonneg _
  by_cases hlt:j<l.length
  ·have i2:(j:Int)<(l.length:Int):=by omega
   obtain ⟨y,hy⟩: ∃y,l[j]?=some y:=⟨_,List.getElem?_eq_getElem hlt⟩
   have HLR:Hid (LayL P wr l (.slice A l.length cap)):=HLY.o.fr HF.o (fun q hq e=>e hq)
   obtain ⟨p0,r0,hA,hpg,hpb,hpat⟩:=HLR.o.at hy
   subst hA
   have HX:=hdd hy
   have HAT:=hdd hpat
   have HLX:Hid (Lay P wr y):=HLR.o.lay y (List.mem_of_getElem? hy)
   have HFX:Hid (Fine y∧ ∀z∈y.l,Fine z):=HFI.o y (List.mem_of_getElem? hy)
   have HMR:Hid (wr.heap[mi]?=some (.map innerEnts 5)):=HF.o.blk HMI.o (fun e=>e HMP.o)
   have HLT:Hid (j<l.length):=hlt
   have HCT:Hid (t.n+costT y≤s1.n+costS l):=by show _≤_;have h1:=HTN.o;have h2:=costS_take hy;have h3:=costS_le l (j+1);omega
   clear hpg hpb hpat hy hlt
   go_upto_region 12 with fail
   iterate 4 go_step
   refine wpList_load_mid rfl 49 _ rfl p0 (r0+j*33) rfl y.cells _ HAT.o Tryz.underlying49 rfl (jv4 y) ?_
   simp only [Act.put,List.setIfInBounds_toArray,List.set_cons_zero,List.set_cons_succ]
   iterate 3 go_step
   refine wpList_store_row rfl 49 _ _ rfl wr.heap.size y.cells.toArray rfl rfl 49 _ (jq2 rfl) (jv9 y) (cells_size y).symm HLX.o.one ?_
   simp only [Act.put,List.setIfInBounds_toArray,List.set_cons_zero,List.set_cons_succ]
   rw [World.setRow_alloc_new]
   obtain ⟨w2,hu⟩: ∃u,wr.alloc (.cells y.cells.toArray 49)=u:=⟨_,rfl⟩
   obtain ⟨gi,HGI⟩: ∃q,Hid (wr.heap.size=q):=⟨_,rfl⟩
   rw [hu,HGI.o]
   have HFA:Hid (Fr (fun _=>False) wr w2):=by rw [←hu];exact (Fr.refl _ wr).alloc _
   have HGB:Hid (w2.heap[gi]?=some (.cells y.cells.toArray 49 (0,0))):=by rw [←hu];exact jq2 HGI.o.symm
   have HW2:Hid (WR G (fun q=>(P q∨q=i)∨q=gm) b (.map (some mi)) t w2):=HW.o.keep HFA.o
   have HM2:Hid (w2.heap[gm]?=some (.map allEnts 14)):=HFA.o.blk HM.o (fun e=>e)
   have HMR2:Hid (w2.heap[mi]?=some (.map innerEnts 5)):=HFA.o.blk HMR.o (fun e=>e)
   have HF2:Hid (FN P wi w2):=HF.o.trans (HFA.o.mono (fun _ _ e=>e.elim))
   have HLX2:Hid (Lay (fun q=>(P q∨q=i)∨q=gm) w2 y):=(HLX.o.fr HFA.o (fun q hq e=>e)).mono (fun q _ hq=> .inl (.inl hq))
   clear hu
   go_upto_region 13 with fail
   iterate 7 go_step
   refine wpList_load_row rfl 49 _ rfl gi rfl 49 y.cells.toArray (0,0) _ HGB.o Tryz.underlying49 rfl (jv9 y) ?_
   simp only [Act.put,List.setIfInBounds_toArray,List.set_cons_zero,List.set_cons_succ]
   go_wp2_with fail
   refine (item_any HW2.o y HLX2.o HFX.o.1 HFX.o.2 gm HM2.o (.inl (.inl HMP.o)) HMR2.o (by have:=HCT.o;have:=HNL.o;have:=HSB.o;omega)).mono ?_
   rintro e w4 (⟨ht,rfl,hf⟩|⟨t2,ht,rfl,⟨h1,hcl⟩,hf⟩)
   ·refine ⟨rfl,.inl ⟨?_,rfl,HF2.o.trans (hf.mono (fun q _ e e2=>e (.inl (.inl e2))))⟩⟩
    show srcR s x l=none
    unfold srcR
    rw [HHD.o]
    show itemsRun (s.app th).line l=none
    rw [HSJ.o,HS1.o,itemsRun_none HX.o HA.o ht]
   have HAN:Hid (itemsRun s1 (l.take (j+1))=some t2):=itemsRun_take HX.o HA.o ht
   have HTN2:Hid (t2.n≤s1.n+costS (l.take (j+1))):=by show _≤_;rw [costS_take HX.o];have:=HTN.o;omega
   have HWN:=hdd h1
   have HMN:Hid (w4.heap[gm]?=some (.map allEnts 14)):=hf.blk HM2.o (fun e=>e (.inr rfl))
   have HFN:Hid (FN P wi w4):=HF2.o.trans (hf.mono (fun q _ e e2=>e (.inl (.inl e2))))
   clear h1 hf ht
   go_wp2_with fail
   go_roundw
   case rel=>exact ⟨j+1,t2,by go_num,HLT.o,HAN,HTN2,HWN,HMN,HFN⟩
   case measure=>have:=HLT.o;simp [intOf];omega
  ·obtain rfl:j=l.length:=by omega
   rw [List.take_length] at HA HTN
   go_wp2_with fail
   go_end0
   refine .inr ⟨t,?_,rfl,⟨HW.o.mono (fun q hq=> .inl (.inl hq)) HG.o,?_⟩,HF.o⟩
   ·show srcR s x l=_
    unfold srcR
    rw [HHD.o]
    show itemsRun (s.app th).line l=_
    rw [HSJ.o,HS1.o,HA.o]
   ·have:=HTN.o;have:=HSB.o;omega
end Go.Proofs.YtfficindoecpfaaGreatDoor.Pt
namespace Go.Proofs.YtfficindoecpfaaGreatDoor.Pt
open Ic (DT)
theorem app_F (l:List Rs.Bytes) (s:St):(s.app l).F=s.F++lineText s.last l∧(s.app l).toks=s.toks+l.length∧(s.app l).items=s.items:=by
 induction l generalizing s with
 |nil=>exact ⟨by show s.F=s.F++ [];rw [List.append_nil],rfl,rfl⟩
 |cons y l ih=>
  rw [St.app_cons]
  obtain ⟨h1,h2,h3⟩:=ih (s.word y)
  refine ⟨?_,?_,?_⟩
  ·rw [h1]
   show s.F++sepOf s.last y++y++lineText y l=s.F++(sepOf s.last y++y++lineText y l)
   simp only [List.append_assoc]
  ·rw [h2]
   show s.toks+1+l.length=s.toks+(l.length+1)
   omega
  ·rw [h3];rfl
structure Rel (s t:St) (ls:List Line) (k:Nat):Prop where
 F:t.F=s.F++textOf ls
 last:t.last= []
 toks:t.toks=s.toks+toksOf ls
 items:t.items=s.items+k
theorem text_app (a b:List Line):textOf (a++b)=textOf a++textOf b:=by unfold textOf;rw [List.flatMap_append]
theorem toks_app (a b:List Line):toksOf (a++b)=toksOf a+toksOf b:=by unfold toksOf;rw [List.map_append,List.sum_append]
theorem Rel.trans {s t u:St} {a b:List Line} {k m:Nat} (h:Rel s t a k) (g:Rel t u b m):Rel s u (a++b) (k+m):=
 ⟨by rw [g.F,h.F,text_app,List.append_assoc],g.last,by rw [g.toks,h.toks,toks_app];omega,by rw [g.items,h.items];omega⟩
theorem Rel.line {s:St} (hl:s.last= []) (ts:List Rs.Bytes):Rel s (s.app ts).line [(false,ts)] 0:=by
 obtain ⟨h1,h2,h3⟩:=app_F ts s
 refine ⟨?_,rfl,?_,?_⟩
 ·show (s.app ts).F++ [10]=_
  rw [h1,hl]
  show s.F++lineText [] ts++ [10]=s.F++(([]++lineText [] ts++ [10])++ [])
  simp only [List.append_assoc,List.nil_append,List.append_nil]
 ·show (s.app ts).toks=s.toks+(ts.length+0)
  rw [h2];rfl
 ·show (s.app ts).items=_
  rw [h3];rfl
theorem Rel.bump {s t:St} {ls:List Line} {k:Nat} (h:Rel s.item t ls k):Rel s t ls (k+1):=⟨h.F,h.last,h.toks,by rw [h.items];show s.items+1+k=_;omega⟩
theorem Rel.inner {s:St} (hl:s.last= []) (ts:List Rs.Bytes):Rel s (((s.put [32,32]).item.app ts).line) [(true,ts)] 1:=by
 obtain ⟨h1,h2,h3⟩:=app_F ts (s.put [32,32]).item
 refine ⟨?_,rfl,?_,?_⟩
 ·show ((s.put [32,32]).item.app ts).F++ [10]=_
  rw [h1]
  show s.F++ [32,32]++lineText s.last ts++ [10]=s.F++(([32,32]++lineText [] ts++ [10])++ [])
  rw [hl]
  simp only [List.append_assoc,List.append_nil]
 ·show ((s.put [32,32]).item.app ts).toks=s.toks+(ts.length+0)
  rw [h2];rfl
 ·show ((s.put [32,32]).item.app ts).items=_
  rw [h3];rfl
def Same (s:St) (o:Option St) (p:Option (List Line)) (k:Nat):Prop:=match p with
 |none=>o=none
 |some ls=> ∃t,o=some t∧Rel s t ls k
theorem flatL_eq (ind:Bool) (x:DT):flatL ind x.tree=match flatI x with|none=>none|some l=>some [(ind,l)]:=by
 have e2:x.tree.l= []↔x.l= []:=by rw [DT.tree_l,List.map_eq_nil_iff]
 unfold flatL flatI
 rw [DT.tree_h]
 cases flatT x.h with
 |none=>rfl
 |some l=>
  show (if blank (left x.h)∧x.tree.l= [] then some [(ind,l)] else none)=match (if blank (left x.h)∧x.l= [] then some l else none) with|none=>none|some l=>some [(ind,l)]
  by_cases hb:blank (left x.h)∧x.l= []
  ·rw [if_pos hb,if_pos ⟨hb.1,e2.2 hb.2⟩]
  ·rw [if_neg hb,if_neg (fun e=>hb ⟨e.1,e2.1 e.2⟩)]
theorem flatI_nil {x:DT} {l:List Rs.Bytes} (h:flatI x=some l):x.l= []:=by
 unfold flatI at h
 cases hf:flatT x.h with
 |none=>rw [hf] at h;cases h
 |some t=>
  rw [hf] at h
  by_cases hb:blank (left x.h)∧x.l= []
  ·exact hb.2
  ·have:(if blank (left x.h)∧x.l= [] then some t else none)=some l:=h
   rw [if_neg hb] at this;cases this
def size1 (x:DT):Nat:=Ic.tsz x.l+1
theorem inner_same {s:St} (hl:s.last= []) (x:DT):Same s (innerStep s x) (innerL x.tree) (size1 x):=by
 have e1:x.tree.h=x.h:=DT.tree_h x
 unfold innerStep innerL
 rw [e1,flatL_eq]
 by_cases hk:isInner x.h.kind=true
 ·rw [if_pos hk,if_pos hk]
  cases hf:flatI x with
  |none=>rfl
  |some l=>
   refine ⟨_,rfl,?_⟩
   have:size1 x=1:=by unfold size1;rw [flatI_nil hf];rfl
   rw [this]
   exact Rel.inner hl l
 ·rw [if_neg hk,if_neg hk]
  rfl
theorem Same.none {s:St} {o:Option St} {k:Nat} (h:Same s o none k):o=none:=h
theorem Same.some {s:St} {o:Option St} {ls:List Line} {k:Nat} (h:Same s o (some ls) k): ∃t,o=some t∧Rel s t ls k:=h
theorem innerRun_same: ∀(l:List DT) (s:St),s.last= []→Same s (innerRun s l) (each innerL (l.map DT.tree)) (Ic.tsz l)
 | [],s,hl=>⟨s,rfl,⟨by show s.F=s.F++ [];rw [List.append_nil],hl,rfl,rfl⟩⟩
 |x::l,s,hl=>by
  have h1:=inner_same hl x
  show Same s (match innerStep s x with|none=>none|some t=>innerRun t l) (catL (innerL x.tree) (each innerL (l.map DT.tree))) (Ic.tsz (x::l))
  cases hi:innerL x.tree with
  |none=>
   rw [hi] at h1
   rw [h1.none]
   rfl
  |some a=>
   rw [hi] at h1
   obtain ⟨t,ht,hr⟩:=h1.some
   rw [ht]
   have h2:=innerRun_same l t hr.last
   show Same s (innerRun t l) (match each innerL (l.map DT.tree) with|none=>none|some y=>some (a++y)) _
   cases he:each innerL (l.map DT.tree) with
   |none=>rw [he] at h2;exact h2
   |some b=>
    rw [he] at h2
    obtain ⟨u,hu,hr2⟩:=h2.some
    exact ⟨u,hu,by rw [Ic.kq0];exact hr.trans hr2⟩
theorem item_same {s:St} (hl:s.last= []) (x:DT):Same s (itemR s x) (itemL x.tree) (size1 x):=by
 have e1:x.tree.h=x.h:=DT.tree_h x
 have e2:x.tree.l=x.l.map DT.tree:=DT.tree_l x
 unfold itemR itemL
 rw [e1,e2,flatL_eq]
 by_cases hk:x.h.kind=13
 ·rw [if_pos hk,if_pos hk]
  unfold tmplS
  cases hh:head x.h with
  |none=>rfl
  |some hd=>
   have h0:Rel s.item (s.item.app hd).line [(false,hd)] 0:=Rel.line (s:=s.item) hl hd
   have h1:=innerRun_same x.l (s.item.app hd).line rfl
   show Same s (match (match innerRun (s.item.app hd).line x.l with|none=>none|some t=>some (t.app [[125]])) with|none=>none|some t=>if blank (left x.h) then some t.line else none) (match each innerL (x.l.map DT.tree) with|none=>none|some ls=>if blank (left x.h) then some ([(false,hd)]++ls++ [(false,[[125]])]) else none) (size1 x)
   cases he:each innerL (x.l.map DT.tree) with
   |none=>
    rw [he] at h1
    rw [h1.none]
    rfl
   |some a=>
    rw [he] at h1
    obtain ⟨t,ht,hr⟩:=h1.some
    rw [ht]
    show Same s (if blank (left x.h) then some (t.app [[125]]).line else none) (if blank (left x.h) then some ([(false,hd)]++a++ [(false,[[125]])]) else none) (size1 x)
    by_cases hb:blank (left x.h)
    ·rw [if_pos hb,if_pos hb]
     refine ⟨_,rfl,?_⟩
     have h3:=((h0.trans hr).trans (Rel.line hr.last [[125]])).bump
     have:size1 x=0+Ic.tsz x.l+0+1:=by unfold size1;omega
     rw [this]
     exact h3
    ·rw [if_neg hb,if_neg hb]
     rfl
 ·rw [if_neg hk,if_neg hk]
  cases hf:flatI x with
  |none=>rfl
  |some l=>
   refine ⟨_,rfl,?_⟩
   have:size1 x=0+1:=by unfold size1;rw [flatI_nil hf];rfl
   rw [this]
   exact (Rel.line (s:=s.item) hl l).bump
theorem itemsRun_same: ∀(l:List DT) (s:St),s.last= []→Same s (itemsRun s l) (each itemL (l.map DT.tree)) (Ic.tsz l)
 | [],s,hl=>⟨s,rfl,⟨by show s.F=s.F++ [];rw [List.append_nil],hl,rfl,rfl⟩⟩
 |x::l,s,hl=>by
  have h1:=item_same hl x
  show Same s (match itemR s x with|none=>none|some t=>itemsRun t l) (catL (itemL x.tree) (each itemL (l.map DT.tree))) (Ic.tsz (x::l))
  cases hi:itemL x.tree with
  |none=>
   rw [hi] at h1
   rw [h1.none]
   rfl
  |some a=>
   rw [hi] at h1
   obtain ⟨t,ht,hr⟩:=h1.some
   rw [ht]
   have h2:=itemsRun_same l t hr.last
   show Same s (itemsRun t l) (match each itemL (l.map DT.tree) with|none=>none|some y=>some (a++y)) _
   cases he:each itemL (l.map DT.tree) with
   |none=>rw [he] at h2;exact h2
   |some b=>
    rw [he] at h2
    obtain ⟨u,hu,hr2⟩:=h2.some
    exact ⟨u,hu,by rw [Ic.kq0];exact hr.trans hr2⟩
theorem src_same {s:St} (hl:s.last= []) (x:Ic.Src) (l:List DT) (hx:l.map DT.tree=x.items):Same s (srcR s x l) (srcL x) (Ic.sizes x.items):=by
 have hs:Ic.sizes x.items=Ic.tsz l:=by rw [←hx];unfold Ic.tsz;rw [Ic.jj3]
 unfold srcR srcL
 rw [hs,←hx]
 cases hf:firstT x with
 |none=>rfl
 |some ts=>
  have h0:=Rel.line hl ts
  have h1:=itemsRun_same l (s.app ts).line rfl
  show Same s (itemsRun (s.app ts).line l) (match each itemL (l.map DT.tree) with|none=>none|some y=>some ([(false,ts)]++y)) _
  cases he:each itemL (l.map DT.tree) with
  |none=>rw [he] at h1;exact h1
  |some b=>
   rw [he] at h1
   obtain ⟨u,hu,hr2⟩:=h1.some
   exact ⟨u,hu,by have:=h0.trans hr2;rwa [Nat.zero_add] at this⟩
def printR (x:Ic.Src) (l:List DT):Rs.Bytes×Int:=match srcR ⟨[],[],0,0,0⟩ x l with
 |none=>([],1)
 |some t=>if 600<t.items∨5000<t.toks∨20000<t.F.length then ([],3) else (t.F,0)
theorem printR_eq (x:Ic.Src) (l:List DT) (hx:l.map DT.tree=x.items):printR x l=match print x with| .error e=>([],e)| .ok F=>(F,0):=by
 have h:=src_same (s:=⟨[],[],0,0,0⟩) rfl x l hx
 unfold printR print
 cases hs:srcL x with
 |none=>rw [hs] at h;rw [h.none]
 |some ls=>
  rw [hs] at h
  obtain ⟨t,ht,hr⟩:=h.some
  rw [ht]
  have e1:t.items=Ic.sizes x.items:=by rw [hr.items];exact Nat.zero_add _
  have e2:t.toks=toksOf ls:=by rw [hr.toks];exact Nat.zero_add _
  have e3:t.F=textOf ls:=by rw [hr.F];rfl
  show (if 600<t.items∨5000<t.toks∨20000<t.F.length then (([],3):Rs.Bytes×Int) else (t.F,0))=match (if 600<Ic.sizes x.items∨5000<toksOf ls∨20000<(textOf ls).length then Except.error 3 else Except.ok (textOf ls)) with| .error e=>([],e)| .ok F=>(F,0)
  rw [e1,e2,e3]
  by_cases hb:600<Ic.sizes x.items∨5000<toksOf ls∨20000<(textOf ls).length
  ·rw [if_pos hb,if_pos hb]
  ·rw [if_neg hb,if_neg hb]
theorem srcR_ne {t:St} {x:Ic.Src} {l:List DT} (h:srcR ⟨[],[],0,0,0⟩ x l=some t):t.F≠ []:=by
 have hs:=src_same (s:=⟨[],[],0,0,0⟩) rfl {x with items:=l.map DT.tree} l rfl
 have e:srcR ⟨[],[],0,0,0⟩ {x with items:=l.map DT.tree} l=srcR ⟨[],[],0,0,0⟩ x l:=rfl
 rw [e,h] at hs
 unfold srcL at hs
 cases hf:firstT {x with items:=l.map DT.tree} with
 |none=>rw [hf] at hs;exact absurd hs.none (by simp)
 |some ts=>
  rw [hf] at hs
  cases he:each itemL (l.map DT.tree) with
  |none=>
   have hs:Same ⟨[],[],0,0,0⟩ (some t) (catL (some [(false,ts)]) (each itemL (l.map DT.tree))) _:=hs
   rw [he] at hs
   exact absurd hs.none (by simp)
  |some b=>
   have hs:Same ⟨[],[],0,0,0⟩ (some t) (catL (some [(false,ts)]) (each itemL (l.map DT.tree))) _:=hs
   rw [he] at hs
   obtain ⟨u,hu,hr⟩:=hs.some
   injection hu with hu
   subst hu
   rw [hr.F]
   intro e2
   have e3:oneLine (false,ts)++textOf b= []:=e2
   have e4:=(List.append_eq_nil_iff.1 e3).1
   unfold oneLine at e4
   exact absurd (List.append_eq_nil_iff.1 e4).2 (by simp)
end Go.Proofs.YtfficindoecpfaaGreatDoor.Pt
namespace Go.Proofs.YtfficindoecpfaaGreatDoor.Pt
open Go.RowKit Mem Vw
open Ic (RowB DT Lay LayL jv9 jv4)
theorem cell_set_same {w:World} {a:Addr} {v:Value} (h:(w.cell? a).isSome=true):(w.setCell a v).cell? a=some v:=by
 cases hu:w.cell? a with
 |none=>rw [hu] at h;cases h
 |some u=>exact World.cell?_setCell_same _ _ _ hu
theorem mkFunc (fn:Fn) (first cap:Array Value) (w:World):(Instr.makeFunc fn first cap).run Tryz.prog w= .ok (.func fn first cap) w:=rfl
theorem Fr.freeze {S:Nat→Prop} {A B:World} (h:Fr S A B) {p:Addr} (hp:S p.block) (n:Nat):Fr S A (B.freeze p n):=by
 refine h.trans ?_
 unfold World.freeze
 split
 ·exact Fr.refl _ _
 ·exact ⟨rfl,rfl,rfl,by simp,fun k hk hs=>by
   simp only [Array.getElem?_modify]
   rw [if_neg (fun e=>hs (by rw [←e];exact hp))]⟩
theorem cells_byte:Tryz.prog.cellsOf 5=1:=by kernel_rfl
theorem string_any {G:Nat} {P:Nat→Prop} {b:Nat} {k:Value} {s:St} {w:World} (hw:WR G P b k s w) (h0:s.F≠ []) (hl:s.F.length≤20000):
  Calls Tryz.prog 22 #[.pointer (some ⟨b,0,none⟩)] w fun e w'=>e= .returned (.string ⟨s.F.toArray⟩)∧FN P w w':=by
 obtain ⟨v,bs,hb⟩:=hw.wb
 obtain ⟨p,hp,hbk⟩:=hb.blk
 have hbs:=hb.txt hl
 have hown:=hb.own
 rw [hbs,Lib.byteCells_length] at hown
 have hl0:s.F.length≠0:=by simpa using h0
 obtain ⟨g,cap,cur,rfl,hbg,hg,hnc,hcm,hcs,htake⟩: ∃g cap cur,v= .slice (some ⟨g,0,none⟩) s.F.length cap∧G≤g∧w.heap[g]?=some (.cells cur 5 (0,0))∧s.F.length≤cap∧cap≤maxLen∧cur.size=cap*1∧cur.toList.take (s.F.length*1)=Lib.byteCells s.F:=by
  rcases hown.2 with ⟨_,hz⟩|⟨g,cap,cur,hv,r⟩
  ·exact absurd hz hl0
  ·exact ⟨g,cap,cur,hv,r⟩
 have hap: ¬P g:=hb.ap g rfl
 obtain ⟨wd,hwd⟩: ∃u,w.drew=u:=⟨_,rfl⟩
 have hbd:wd.heap[b]?=some (.cells (wcells p (.slice (some ⟨g,0,none⟩) s.F.length cap) s k) 61 (0,0)):=by rw [←hwd];exact hbk
 have hgd:wd.heap[g]?=some (.cells cur 5 (0,0)):=by rw [←hwd];exact hg
 have c1:wd.cell? ⟨b,1,none⟩=some (.slice (some ⟨g,0,none⟩) s.F.length cap):=jq0 hbd 1
 have hSD:(Builtin.unsafeSliceData_ #[57] 87 #[.slice (some ⟨g,0,none⟩) s.F.length cap]).run Tryz.prog wd= .ok (.pointer (some ⟨g,0,none⟩)) wd:=
  Lib.run_unsafeSliceData_row _ _ _ _ _ _ (by omega)
 have hUS:(Builtin.unsafeString_ #[87,3] 9 #[.pointer (some ⟨g,0,none⟩),.int .i64 s.F.length]).run Tryz.prog wd= .ok (.string ⟨s.F.toArray⟩) (wd.freeze ⟨g,0,none⟩ s.F.length):=by
  refine Lib.run_unsafeString_row wd 87 3 9 5 Tryz.underlying87 cells_byte g cur.size (by simp [World.shape?,hgd]) s.F h0 (by omega) (by omega) ?_
  intro j x hx
  have:=hown.cells (g:=g) rfl j (.int .u8 x.toNat) (by simp [Lib.byteCells,hx])
  rw [←hwd]
  exact this
 have HF:Hid (FN P w (wd.freeze ⟨g,0,none⟩ s.F.length)):=by rw [←hwd];exact Fr.freeze (Fr.refl _ w).drew hap _
 have HWD:=hdd hwd
 obtain ⟨wz,hwz⟩: ∃u,wd.freeze ⟨g,0,none⟩ s.F.length=u:=⟨_,rfl⟩
 rw [hwz] at HF hUS
 clear hwd hw hb hbk hbs hown hbd hgd hg htake hwz hp
 rw [←HWD.o] at c1 hSD hUS
 have mixed:Tryz.prog.follows .mixedOrders=true:=by kernel_rfl
 go_enter Tryz.func22,Tryz.ntmps22
 go_upto_region 1 with fail
 go_region_o
 all_goals (go_wp2;go_ret;exact ⟨rfl,HF.o⟩)
theorem frame6 (a0 a1 v:Value): #[a0,a1]++((Array.replicate 4 undef).setIfInBounds 1 v).setIfInBounds 0 v= #[a0,a1,v,v,undef,undef]:=by simp [Array.replicate,List.replicate]
theorem neq_pan (W:World):(binOp .neq 20 (.iface 116 (.agg #[])) .nilIface).run Tryz.prog W= .ok (.bool true) W:=by kernel_rfl
theorem neq_nil (W:World):(binOp .neq 20 .nilIface .nilIface).run Tryz.prog W= .ok (.bool false) W:=by kernel_rfl
theorem catch_idle (a0 a1:Value) (w:World):
  CallsD Tryz.prog 19 #[a0,a1] .returning w fun e u' w'=>e= .returned (.tuple #[])∧u'= .returning∧w'=w:=by
 refine callsD_of_wpS Tryz.func19 rfl fun c₀ cs hu=>?_
 apply wpS_seq
 apply wpS_region
 simp [wpOpsS,go_sem,recoverD,hu,Tryz.ntmps19,Exit.thenS]
 refine wpS_of_wp ?_
 rw [frame6]
 have hq:=neq_nil
 go_wp2
 cases c₀
 simp_all [bodyPostS,results,Tryz.results19]
theorem catch_pan (b c:Nat) (w:World) (v0 v1:Value) (c0:w.cell? ⟨b,0,none⟩=some v0) (c1:w.cell? ⟨c,0,none⟩=some v1) (z0:w.frozen? ⟨b,0,none⟩=false) (z1:w.frozen? ⟨c,0,none⟩=false) (hbc:b≠c):
  CallsD Tryz.prog 19 #[.pointer (some ⟨b,0,none⟩),.pointer (some ⟨c,0,none⟩)] (.panicking PI) w fun e u' w'=>
   e= .returned (.tuple #[])∧u'= .panicking [{v:= .iface 116 (.agg #[]),recovered:=true}]∧w'=(w.setCell ⟨b,0,none⟩ (.string ⟨#[]⟩)).setCell ⟨c,0,none⟩ (.int .i64 1):=by
 unfold PI
 refine callsD_of_wpS Tryz.func19 rfl fun c₀ cs hu=>?_
 apply wpS_seq
 apply wpS_region
 simp [wpOpsS,go_sem,recoverD,hu,Tryz.ntmps19,Exit.thenS]
 refine wpS_of_wp ?_
 rw [frame6]
 have HU:=hdd hu;clear hu
 have hq:=neq_pan
 obtain ⟨w1,hw1⟩: ∃u,w.setCell ⟨b,0,none⟩ (.string ⟨#[]⟩)=u:=⟨_,rfl⟩
 have hne:(⟨c,0,none⟩:Addr)≠⟨b,0,none⟩:=by intro h;injection h with h;exact hbc h.symm
 have d1:w1.cell? ⟨c,0,none⟩=some v1:=by rw [←hw1,World.cell?_setCell_other _ _ _ _ hne.symm];exact c1
 have e1:w1.frozen? ⟨c,0,none⟩=false:=by rw [←hw1];simpa using z1
 rw [hw1]
 go_wp2
 exact ⟨rfl,_,rfl,.tuple #[],by simp [results,Tryz.results19],rfl,rfl,rfl⟩
theorem one_src (n:Rs.Bytes) (c:Rs.Civil) (d:Int) (A:Option Addr) (m cap:Nat):(Rs.scells n c d (.slice A m cap)).toArray.all (·.oneCell')=true:=by simp [Rs.scells,Value.oneCell',Rs.sv,Rs.nv]
theorem build_wr (m:Option Nat) (w:World):(Instr.build 61 #[(5,.map m)]).run Tryz.prog w= .ok (.agg (wcells (.pointer none) (.slice none 0 0) ⟨[],[],0,0,0⟩ (.map m))) w:=by kernel_rfl
theorem info_src (n:Rs.Bytes) (c:Rs.Civil) (d:Int) (v:Value):(Tryz.prog.info? 26).map (·.size)=some (Rs.scells n c d v).toArray.size:=by
 rw [show (Tryz.prog.info? 26).map (·.size)=some 6 by kernel_rfl];rfl
theorem wr_new {w w1:World} {mi:Nat} {cs:Array Value} (hcs:cs=wcells (.pointer none) (.slice none 0 0) ⟨[],[],0,0,0⟩ (.map (some mi))) (hE:Env w) (h7:7≤w.heap.size) (h1:w.alloc (.cells cs 61)=w1):WR w.heap.size (fun q=>q<w.heap.size) w.heap.size (.map (some mi)) ⟨[],[],0,0,0⟩ w1:=by
 subst hcs
 have hf:Fr (fun _=>False) w w1:=by rw [←h1];exact (Fr.refl _ w).alloc _
 have hs:w1.heap.size=w.heap.size+1:=by rw [←h1];simp
 refine ⟨hE.fr hf (fun _ _ e=>e),fun q hq=>hq,h7,⟨by decide,by decide,by decide,by decide⟩,Nat.lt_irrefl _,fun q hq=>by show q<_;rw [hs];exact Nat.lt_succ_of_lt hq,.slice none 0 0,[],?_⟩
 exact ⟨⟨.pointer none,.inl rfl,by rw [←h1];exact jq2 rfl⟩,⟨rfl,.inl ⟨rfl,rfl⟩⟩,(by intro e;cases e),(fun q e=>by cases e),by decide,fun _=>rfl⟩
theorem cells_234 {G:Nat} {P:Nat→Prop} {b:Nat} {k:Value} {s:St} {w:World} (h:WR G P b k s w):w.cell? ⟨b,2,none⟩=some (.int .i64 (s.F.length:Int))∧w.cell? ⟨b,3,none⟩=some (.int .i64 (s.toks:Int))∧w.cell? ⟨b,4,none⟩=some (.int .i64 (s.items:Int)):=by
 obtain ⟨v,bs,hw⟩:=h.wb
 obtain ⟨p,hp,hbk⟩:=hw.blk
 exact ⟨jq0 hbk 2,jq0 hbk 3,jq0 hbk 4⟩
theorem print_any {w:World} {x:Ic.Src} {l:List DT} {iv:Value} (hE:Env w) (h7:7≤w.heap.size) (hL:LayL (fun q=>q<w.heap.size) w l iv) (hin: ∀y∈l,Fine y∧ ∀z∈y.l,Fine z) (hnm:x.name.length≤9223372036854775807) (hn:costS l+100≤lim):
  Calls Tryz.prog 11 #[.agg (Rs.scells x.name x.frm x.days iv).toArray] w fun e w'=>e= .returned (.tuple #[.string ⟨(printR x l).1.toArray⟩,.int .i64 (printR x l).2])∧Fr (fun _=>False) w w':=by
 obtain ⟨A,cap,hiv,_,_⟩:=hL.slice
 subst hiv
 have HE:=hdd hE;have H7:=hdd h7;have HL:=hdd hL;have HIN:=hdd hin;have HNM:=hdd hnm;have HN:=hdd hn
 clear hE h7 hL hin hnm hn
 obtain ⟨gs,HGS⟩: ∃q,Hid (w.heap.size=q):=⟨_,rfl⟩
 obtain ⟨gt,HGT⟩: ∃q,Hid (gs+1=q):=⟨_,rfl⟩
 obtain ⟨ge,HGE⟩: ∃q,Hid (gt+1=q):=⟨_,rfl⟩
 obtain ⟨w3,HX3⟩: ∃u,Hid (((w.alloc (.cells (Rs.scells x.name x.frm x.days (.slice A l.length cap)).toArray 26)).alloc (.cells #[.string ⟨#[]⟩] 9)).alloc (.cells #[.int .i64 0] 29)=u):=⟨_,rfl⟩
 have HF3:Hid (Fr (fun _=>False) w w3):=by rw [←HX3.o];exact (((Fr.refl _ w).alloc _).alloc _).alloc _
 have HBS:Hid (w3.heap[gs]?=some (.cells (Rs.scells x.name x.frm x.days (.slice A l.length cap)).toArray 26 (0,0))):=by rw [←HX3.o];exact jx1 (jx1 (jq2 HGS.o.symm) _) _
 have HBT:Hid (w3.heap[gt]?=some (.cells #[.string ⟨#[]⟩] 9 (0,0))):=by rw [←HX3.o];exact jx1 (jq2 (by simp [HGS.o,HGT.o])) _
 have HBE:Hid (w3.heap[ge]?=some (.cells #[.int .i64 0] 29 (0,0))):=by rw [←HX3.o];exact jq2 (by simp [HGS.o,HGT.o,HGE.o])
 have hmf:=mkFunc
 go_enter_defers Tryz.func11,Tryz.ntmps11
 go_upto_region 2 with fail
 rw [HX3.o,HGS.o,HGT.o,HGE.o]
 clear HX3
 go_wp2_with fail
 refine (innerKinds_any w3).mono ?_
 rintro e w4 ⟨rfl,hb,hf⟩
 obtain ⟨mi,HMI⟩: ∃q,Hid (w3.heap.size=q):=⟨_,rfl⟩
 rw [HMI.o] at hb
 rw [HMI.o]
 have HM4:=hdd hb
 have HF4:Hid (Fr (fun _=>False) w w4):=HF3.o.trans hf
 have HS4:Hid (w4.heap[gs]?=some (.cells (Rs.scells x.name x.frm x.days (.slice A l.length cap)).toArray 26 (0,0))):=hf.blk HBS.o (fun e=>e)
 have HT4:Hid (w4.heap[gt]?=some (.cells #[.string ⟨#[]⟩] 9 (0,0))):=hf.blk HBT.o (fun e=>e)
 have HE4:Hid (w4.heap[ge]?=some (.cells #[.int .i64 0] 29 (0,0))):=hf.blk HBE.o (fun e=>e)
 have hbw:=build_wr (some mi)
 clear hb hf hmf
 go_upto_region 3 with fail
 obtain ⟨b,HGB⟩: ∃q,Hid (w4.heap.size=q):=⟨_,rfl⟩
 obtain ⟨w5,hw5⟩: ∃u,w4.alloc (.cells #[.pointer none,.slice none 0 0,.int .i64 0,.int .i64 0,.int .i64 0,.string ⟨#[]⟩,.map (some mi)] 61)=u:=⟨_,rfl⟩
 have HSZ:Hid (w.heap.size≤b∧gs<b∧gt<b∧ge<b∧mi<b∧7≤b):=by
  have h1:=HF4.o.size;have h2:=jq7 HS4.o;have h3:=jq7 HT4.o;have h4:=jq7 HE4.o;have h5:=jq7 HM4.o;have h6:=H7.o
  rw [HGB.o] at h1 h2 h3 h4 h5
  exact ⟨h1,h2,h3,h4,h5,Nat.le_trans h6 h1⟩
 have hfa:Fr (fun _=>False) w4 w5:=by rw [←hw5];exact (Fr.refl _ w4).alloc _
 have HW5:Hid (WR b (fun q=>q<b) b (.map (some mi)) ⟨[],[],0,0,0⟩ w5):=by
  have h:=wr_new (mi:=mi) (cs:= #[.pointer none,.slice none 0 0,.int .i64 0,.int .i64 0,.int .i64 0,.string ⟨#[]⟩,.map (some mi)]) rfl (HE.o.fr HF4.o (fun _ _ e=>e)) (by rw [HGB.o];exact HSZ.o.2.2.2.2.2) hw5
  rw [HGB.o] at h
  exact h
 have HF5:Hid (Fr (fun _=>False) w w5):=HF4.o.trans hfa
 have HS5:Hid (w5.heap[gs]?=some (.cells (Rs.scells x.name x.frm x.days (.slice A l.length cap)).toArray 26 (0,0))):=hfa.blk HS4.o (fun e=>e)
 have HT5:Hid (w5.heap[gt]?=some (.cells #[.string ⟨#[]⟩] 9 (0,0))):=hfa.blk HT4.o (fun e=>e)
 have HE5:Hid (w5.heap[ge]?=some (.cells #[.int .i64 0] 29 (0,0))):=hfa.blk HE4.o (fun e=>e)
 have HM5:Hid (w5.heap[mi]?=some (.map innerEnts 5)):=hfa.blk HM4.o (fun e=>e)
 have HL5:Hid (LayL (fun q=>q<b) w5 l (.slice A l.length cap)):=(HL.o.fr HF5.o (fun _ _ e=>e)).mono (fun q _ hq=>Nat.lt_of_lt_of_le hq HSZ.o.1)
 rw [hw5,HGB.o]
 clear hw5 hfa hbw
 iterate 4 go_step
 refine wpList_load_row rfl 26 _ rfl gs rfl 26 (Rs.scells x.name x.frm x.days (.slice A l.length cap)).toArray (0,0) _ HS5.o Tryz.underlying26 rfl (info_src _ _ _ _) ?_
 simp only [Act.put,List.setIfInBounds_toArray,List.set_cons_zero,List.set_cons_succ]
 go_wp2_with fail
 refine (source_any HW5.o HL5.o HIN.o HNM.o HSZ.o.2.2.2.2.1 HM5.o (by show 0+costS l+100≤lim;have:=HN.o;omega)).mono ?_
 rintro e w6 (⟨ht,rfl,hf⟩|⟨t,ht,rfl,⟨g1,g2⟩,hf⟩)
 ·have HT6:Hid (w6.heap[gt]?=some (.cells #[.string ⟨#[]⟩] 9 (0,0))):=hf.blk HT5.o (fun e=>e HSZ.o.2.2.1)
  have HE6:Hid (w6.heap[ge]?=some (.cells #[.int .i64 0] 29 (0,0))):=hf.blk HE5.o (fun e=>e HSZ.o.2.2.2.1)
  refine leaves_cons (f:=19) (args:= #[.pointer (some ⟨gt,0,none⟩),.pointer (some ⟨ge,0,none⟩)]) (by simp) (by simp [go_sem]) ?_
  refine (catch_pan gt ge w6 _ _ (jq0 HT6.o 0) (jq0 HE6.o 0) (jq1 HT6.o 0) (jq1 HE6.o 0) (by have:=HGE.o;omega)).mono ?_
  rintro e u' w7 ⟨rfl,rfl,rfl⟩
  have HPR:Hid (printR x l=([],1)):=by show _=_;unfold printR;rw [ht]
  have hfr:Fr (fun _=>False) w w6:=HF5.o.trans' hf (fun i hi e=>(e (Nat.lt_of_lt_of_le hi HSZ.o.1)).elim)
  have hge:(⟨ge,0,none⟩:Addr)≠⟨gt,0,none⟩:=by intro h;injection h with h;have:=HGE.o;omega
  have q0:((w6.setCell ⟨gt,0,none⟩ (.string ⟨#[]⟩)).setCell ⟨ge,0,none⟩ (.int .i64 1)).cell? ⟨gt,0,none⟩=some (.string ⟨#[]⟩):=by
   rw [World.cell?_setCell_other _ _ _ _ hge]
   exact cell_set_same (by rw [jq0 HT6.o 0];rfl)
  have q1:((w6.setCell ⟨gt,0,none⟩ (.string ⟨#[]⟩)).setCell ⟨ge,0,none⟩ (.int .i64 1)).cell? ⟨ge,0,none⟩=some (.int .i64 1):=cell_set_same (by rw [World.cell?_setCell_other _ _ _ _ hge.symm,jq0 HE6.o 0];rfl)
  have hf8:Fr (fun _=>False) w ((w6.setCell ⟨gt,0,none⟩ (.string ⟨#[]⟩)).setCell ⟨ge,0,none⟩ (.int .i64 1)):=(hfr.setCell (p:=⟨gt,0,none⟩) (.inr (by show _≤gt;have:=HGS.o;have:=HGT.o;omega)) _).setCell (p:=⟨ge,0,none⟩) (.inr (by show _≤ge;have:=HGS.o;have:=HGT.o;have:=HGE.o;omega)) _
  refine ⟨.tuple #[.string ⟨#[]⟩,.int .i64 1],by simp [results,Tryz.results11,go_sem,q0,q1],by rw [HPR.o],hf8⟩
 ·have HT6:Hid (w6.heap[gt]?=some (.cells #[.string ⟨#[]⟩] 9 (0,0))):=hf.blk HT5.o (fun e=>e HSZ.o.2.2.1)
  have HE6:Hid (w6.heap[ge]?=some (.cells #[.int .i64 0] 29 (0,0))):=hf.blk HE5.o (fun e=>e HSZ.o.2.2.2.1)
  have HFR:Hid (Fr (fun _=>False) w w6):=HF5.o.trans' hf (fun i hi e=>(e (Nat.lt_of_lt_of_le hi HSZ.o.1)).elim)
  have HW6:=hdd g1
  have HSR:=hdd ht
  obtain ⟨c2,c3,c4⟩:=cells_234 g1
  have hge:(⟨ge,0,none⟩:Addr)≠⟨gt,0,none⟩:=by intro h;injection h with h;have:=HGE.o;omega
  clear hf g1 g2 ht
  by_cases hbig:600<t.items∨5000<t.toks∨20000<t.F.length
  ·have HPR:Hid (printR x l=([],3)):=by show _=_;unfold printR;rw [HSR.o];exact if_pos hbig
   have e0:w6.cell? ⟨gt,0,none⟩=some (.string ⟨#[]⟩):=jq0 HT6.o 0
   have e1:w6.frozen? ⟨gt,0,none⟩=false:=jq1 HT6.o 0
   obtain ⟨w7,hw7⟩: ∃u,w6.setCell ⟨gt,0,none⟩ (.string ⟨#[]⟩)=u:=⟨_,rfl⟩
   have e2:w7.cell? ⟨ge,0,none⟩=some (.int .i64 0):=by rw [←hw7,World.cell?_setCell_other _ _ _ _ hge.symm];exact jq0 HE6.o 0
   have e3:w7.frozen? ⟨ge,0,none⟩=false:=by rw [←hw7];simpa using jq1 HE6.o 0
   have e4:w7.cell? ⟨gt,0,none⟩=some (.string ⟨#[]⟩):=by rw [←hw7];exact cell_set_same (by rw [e0];rfl)
   obtain ⟨w8,hw8⟩: ∃u,w7.setCell ⟨ge,0,none⟩ (.int .i64 3)=u:=⟨_,rfl⟩
   have e5:w8.cell? ⟨ge,0,none⟩=some (.int .i64 3):=by rw [←hw8];exact cell_set_same (by rw [e2];rfl)
   have e6:w8.cell? ⟨gt,0,none⟩=some (.string ⟨#[]⟩):=by rw [←hw8,World.cell?_setCell_other _ _ _ _ hge];exact e4
   have HF8:Hid (Fr (fun _=>False) w w8):=by
    rw [←hw8,←hw7]
    exact (HFR.o.setCell (p:=⟨gt,0,none⟩) (.inr (by show _≤gt;have:=HGS.o;have:=HGT.o;omega)) _).setCell (p:=⟨ge,0,none⟩) (.inr (by show _≤ge;have:=HGS.o;have:=HGT.o;have:=HGE.o;omega)) _
   have HE58:=hdd e5;have HE68:=hdd e6
   have i0:(0:Int)≤(t.items:Int):=Int.natCast_nonneg _
   have i1:(0:Int)≤(t.toks:Int):=Int.natCast_nonneg _
   have i2:(0:Int)≤(t.F.length:Int):=Int.natCast_nonneg _
   clear e5 e6 e4
   by_cases hi:600<t.items
   ·have q1:decide ((600:Int)<(t.items:Int))=true:=decide_eq_true (by omega)
    have p1:(600:Int)<(t.items:Int):=by omega
    go_wp2_with fail
    refine leaves_cons (f:=19) (args:= #[.pointer (some ⟨gt,0,none⟩),.pointer (some ⟨ge,0,none⟩)]) (by simp) (by simp [go_sem]) ?_
    refine (catch_idle _ _ _).mono ?_
    rintro e u' w9 ⟨rfl,rfl,rfl⟩
    exact ⟨.tuple #[.string ⟨#[]⟩,.int .i64 3],by simp [results,Tryz.results11,go_sem,HE58.o,HE68.o],by rw [HPR.o],HF8.o⟩
   have q1:decide ((600:Int)<(t.items:Int))=false:=decide_eq_false (by omega)
   have p1: ¬(600:Int)<(t.items:Int):=by omega
   by_cases hj:5000<t.toks
   ·have q2:decide ((5000:Int)<(t.toks:Int))=true:=decide_eq_true (by omega)
    have p2:(5000:Int)<(t.toks:Int):=by omega
    go_wp2_with fail
    refine leaves_cons (f:=19) (args:= #[.pointer (some ⟨gt,0,none⟩),.pointer (some ⟨ge,0,none⟩)]) (by simp) (by simp [go_sem]) ?_
    refine (catch_idle _ _ _).mono ?_
    rintro e u' w9 ⟨rfl,rfl,rfl⟩
    exact ⟨.tuple #[.string ⟨#[]⟩,.int .i64 3],by simp [results,Tryz.results11,go_sem,HE58.o,HE68.o],by rw [HPR.o],HF8.o⟩
   have q2:decide ((5000:Int)<(t.toks:Int))=false:=decide_eq_false (by omega)
   have p2: ¬(5000:Int)<(t.toks:Int):=by omega
   have q3:decide ((20000:Int)<(t.F.length:Int))=true:=decide_eq_true (by omega)
   have p3:(20000:Int)<(t.F.length:Int):=by omega
   go_wp2_with fail
   refine leaves_cons (f:=19) (args:= #[.pointer (some ⟨gt,0,none⟩),.pointer (some ⟨ge,0,none⟩)]) (by simp) (by simp [go_sem]) ?_
   refine (catch_idle _ _ _).mono ?_
   rintro e u' w9 ⟨rfl,rfl,rfl⟩
   exact ⟨.tuple #[.string ⟨#[]⟩,.int .i64 3],by simp [results,Tryz.results11,go_sem,HE58.o,HE68.o],by rw [HPR.o],HF8.o⟩
  ·have HPR:Hid (printR x l=(t.F,0)):=by show _=_;unfold printR;rw [HSR.o];exact if_neg hbig
   have HNE:Hid (t.F≠ []):=srcR_ne HSR.o
   have hl: ¬20000<t.F.length:=fun e=>hbig (.inr (.inr e))
   have HST:=hdd (string_any HW6.o HNE.o (by omega))
   have i0:(0:Int)≤(t.items:Int):=Int.natCast_nonneg _
   have i1:(0:Int)≤(t.toks:Int):=Int.natCast_nonneg _
   have i2:(0:Int)≤(t.F.length:Int):=Int.natCast_nonneg _
   have hi: ¬600<t.items:=fun e=>hbig (.inl e)
   have hj: ¬5000<t.toks:=fun e=>hbig (.inr (.inl e))
   clear hbig
   have q1:decide ((600:Int)<(t.items:Int))=false:=decide_eq_false (by omega)
   have p1: ¬(600:Int)<(t.items:Int):=by omega
   have q2:decide ((5000:Int)<(t.toks:Int))=false:=decide_eq_false (by omega)
   have p2: ¬(5000:Int)<(t.toks:Int):=by omega
   have q3:decide ((20000:Int)<(t.F.length:Int))=false:=decide_eq_false (by omega)
   have p3: ¬(20000:Int)<(t.F.length:Int):=by omega
   go_wp2_with fail
   refine HST.o.mono ?_
   rintro e w9 ⟨rfl,hf⟩
   have HT9:Hid (w9.heap[gt]?=some (.cells #[.string ⟨#[]⟩] 9 (0,0))):=hf.blk HT6.o (fun e=>e HSZ.o.2.2.1)
   have HE9:Hid (w9.heap[ge]?=some (.cells #[.int .i64 0] 29 (0,0))):=hf.blk HE6.o (fun e=>e HSZ.o.2.2.2.1)
   have HF9:Hid (Fr (fun _=>False) w w9):=HFR.o.trans' hf (fun i hi e=>(e (Nat.lt_of_lt_of_le hi HSZ.o.1)).elim)
   clear hf
   have e0:w9.cell? ⟨gt,0,none⟩=some (.string ⟨#[]⟩):=jq0 HT9.o 0
   have e1:w9.frozen? ⟨gt,0,none⟩=false:=jq1 HT9.o 0
   obtain ⟨w7,hw7⟩: ∃u,w9.setCell ⟨gt,0,none⟩ (.string ⟨t.F.toArray⟩)=u:=⟨_,rfl⟩
   have e2:w7.cell? ⟨ge,0,none⟩=some (.int .i64 0):=by rw [←hw7,World.cell?_setCell_other _ _ _ _ hge.symm];exact jq0 HE9.o 0
   have e3:w7.frozen? ⟨ge,0,none⟩=false:=by rw [←hw7];simpa using jq1 HE9.o 0
   have e4:w7.cell? ⟨gt,0,none⟩=some (.string ⟨t.F.toArray⟩):=by rw [←hw7];exact cell_set_same (by rw [e0];rfl)
   obtain ⟨w8,hw8⟩: ∃u,w7.setCell ⟨ge,0,none⟩ (.int .i64 0)=u:=⟨_,rfl⟩
   have e5:w8.cell? ⟨ge,0,none⟩=some (.int .i64 0):=by rw [←hw8];exact cell_set_same (by rw [e2];rfl)
   have e6:w8.cell? ⟨gt,0,none⟩=some (.string ⟨t.F.toArray⟩):=by rw [←hw8,World.cell?_setCell_other _ _ _ _ hge];exact e4
   have HF8:Hid (Fr (fun _=>False) w w8):=by
    rw [←hw8,←hw7]
    exact (HF9.o.setCell (p:=⟨gt,0,none⟩) (.inr (by show _≤gt;have:=HGS.o;have:=HGT.o;omega)) _).setCell (p:=⟨ge,0,none⟩) (.inr (by show _≤ge;have:=HGS.o;have:=HGT.o;have:=HGE.o;omega)) _
   have HE58:=hdd e5;have HE68:=hdd e6
   clear e5 e6 e4
   go_wp2_with fail
   refine leaves_cons (f:=19) (args:= #[.pointer (some ⟨gt,0,none⟩),.pointer (some ⟨ge,0,none⟩)]) (by simp) (by simp [go_sem]) ?_
   refine (catch_idle _ _ _).mono ?_
   rintro e u' w9 ⟨rfl,rfl,rfl⟩
   exact ⟨.tuple #[.string ⟨t.F.toArray⟩,.int .i64 0],by simp [results,Tryz.results11,go_sem,HE58.o,HE68.o],by rw [HPR.o],HF8.o⟩
end Go.Proofs.YtfficindoecpfaaGreatDoor.Pt
