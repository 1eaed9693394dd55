/-
  Trees that the parser returned, as the printer reads them. The examples of the law's head, by the plain parser and the plain printer. The law's head: its examples have the answers that it names. What the listed variables give the walks, and that the program's own start meets it.
-/
import Derived.Test.YtfficindoecpfaaGreatDoorPkPriD
import Derived.Test.YtfficindoecpfaaGreatDoorPkParD
import Derived.Test.YtfficindoecpfaaGreatDoorPriRs
import Derived.Test.YtfficindoecpfaaGreatDoorRows
import Derived.ProofKit
import Derived.LaidMore
import Derived.OpenShut
import Derived.Stop.Joined
import Derived.Shelf.Vars
import Derived.HandedShaped
set_option linter.unusedVariables false
set_option linter.unusedSimpArgs false
set_option maxHeartbeats 64000000
set_option maxRecDepth 100000
namespace Go.Proofs.YtfficindoecpfaaGreatDoor.Pt
open Go.RowKit Mem Vw
open Ic (RowB DT Lay LayL)
theorem rowB_of {W:World} {v:Value} {z:Nat} {xs:List (List Value)} (h:Pr.Row W v z xs):RowB (fun q=>q<W.heap.size) W v z xs:=by
 obtain ⟨A,cap,e,hc,h1⟩:=h
 refine ⟨⟨A,cap,e,hc,h1⟩,fun g o n c e2 hx=>?_⟩
 rcases h1 with h1|⟨g',o',hA,hg,_⟩
 ·exact absurd h1 hx
 ·rw [e] at e2;injection e2 with e3 _ _;rw [hA] at e3;injection e3 with e4;injection e4 with e5 _ _;subst e5
  exact hg
theorem map_named (l:List Pr.Named):(l.map rsn).map Rs.namedc=l.map Pr.cval:=by rw [List.map_map];rfl
theorem map_civil (l:List Pr.Civil):(l.map rsc).map Rs.civilc=l.map Pr.dval:=by rw [List.map_map];rfl
theorem vflat_of {W:World} {f:Pr.Flat} {sc sd sn:Value} (h:Pr.VFlat W f sc sd sn):RowB (fun q=>q<W.heap.size) W sc 2 ((rsi f).conds.map Rs.namedc)∧RowB (fun q=>q<W.heap.size) W sd 3 ((rsi f).dates.map Rs.civilc)∧RowB (fun q=>q<W.heap.size) W sn 1 ((rsi f).names.map fun x=> [Rs.sv x]):=by
 refine ⟨?_,?_,rowB_of h.2.2⟩
 ·show RowB _ W sc 2 ((f.conds.map rsn).map Rs.namedc);rw [map_named];exact rowB_of h.1
 ·show RowB _ W sd 3 ((f.dates.map rsc).map Rs.civilc);rw [map_civil];exact rowB_of h.2.1
theorem zip_fst {α β:Type} {l:List α} {vs:List β} (h:vs.length=l.length):(l.zip vs).map Prod.fst=l:=by
 rw [List.map_fst_zip];omega
theorem inner_of {W:World} {l:List Pr.Flat} {v:Value} (h:Pr.VInner W l v): ∃ds:List DT,ds.map DT.tree=l.map rsf∧LayL (fun q=>q<W.heap.size) W ds v:=by
 obtain ⟨vs,h1,h2,h3⟩:=h
 let mk:Pr.Flat×Value×Value×Value→DT:=fun p=> .node (rsi p.1) p.2.1 p.2.2.1 p.2.2.2 Vw.nil []
 refine ⟨(l.zip vs).map mk,?_,?_,?_⟩
 ·rw [List.map_map]
  have:(DT.tree∘mk)=rsf∘Prod.fst:=by
   funext p
   show (DT.node (rsi p.1) p.2.1 p.2.2.1 p.2.2.2 Vw.nil []).tree=rsf p.1
   rw [DT.tree];rfl
  rw [this,←List.map_map,zip_fst h1]
 ·rw [List.map_map]
  exact rowB_of h2
 ·intro x hx
  obtain ⟨p,hp,rfl⟩:=List.mem_map.1 hx
  have h4:=vflat_of (h3 p hp)
  exact .node _ _ _ _ _ _ h4.1 h4.2.1 h4.2.2 (RowB.nil _ W 33) (fun x hx=>by cases hx)
theorem lay_of {W:World} {l:List Pr.Item} {v:Value} (h:Pr.VItems W l v): ∃ds:List DT,ds.map DT.tree=l.map rst∧LayL (fun q=>q<W.heap.size) W ds v:=by
 obtain ⟨vs,h1,h2,h3⟩:=h
 have key: ∀(z:List (Pr.Item×Pr.Sl)),(∀p∈z,Pr.VFlat W p.1.flat p.2.1 p.2.2.1 p.2.2.2.1∧Pr.VInner W p.1.inner p.2.2.2.2)→ ∃ds:List DT,ds.map DT.tree=(z.map Prod.fst).map rst∧ds.map DT.cells=z.map (fun p=>Pr.icells p.1.flat p.2.1 p.2.2.1 p.2.2.2.1 p.2.2.2.2)∧ ∀x∈ds,Lay (fun q=>q<W.heap.size) W x:=by
  intro z
  induction z with
  |nil=>exact fun _=>⟨[],rfl,rfl,fun x hx=>by cases hx⟩
  |cons p z ih=>
   intro hz
   obtain ⟨ds,e1,e2,e3⟩:=ih (fun q hq=>hz q (List.mem_cons_of_mem _ hq))
   obtain ⟨k1,k2⟩:=hz p (List.mem_cons_self ..)
   obtain ⟨is,f1,f2⟩:=inner_of k2
   have h4:=vflat_of k1
   refine ⟨.node (rsi p.1.flat) p.2.1 p.2.2.1 p.2.2.2.1 p.2.2.2.2 is::ds,?_,?_,?_⟩
   ·rw [List.map_cons,e1]
    show _::_=rst p.1::_
    congr 1
    rw [DT.tree,Ic.jj3,f1]
    rfl
   ·rw [List.map_cons,e2]
    rfl
   ·intro x hx
    rcases List.mem_cons.1 hx with rfl|hx
    ·exact .node _ _ _ _ _ _ h4.1 h4.2.1 h4.2.2 f2.row f2.lay
    ·exact e3 x hx
 obtain ⟨ds,e1,e2,e3⟩:=key _ h3
 refine ⟨ds,?_,?_,e3⟩
 ·rw [e1,zip_fst h1]
 ·rw [e2];exact rowB_of h2
structure FineT (x:Ic.Tree):Prop where
 ok:Ok x.h
 days:x.h.days.length=7
 len:x.l.length≤1048576
 conds:x.h.conds.length≤1048576
 dates:x.h.dates.length≤1048576
 names:x.h.names.length≤1048576
theorem Fine.of {x:DT} (h:FineT x.tree):Fine x:=by
 have e:=DT.tree_h x
 have e2:=DT.tree_l x
 obtain ⟨h1,h2,h3,h4,h5,h6⟩:=h
 rw [e] at h1 h2 h4 h5 h6
 rw [e2,List.length_map] at h3
 exact ⟨h1,h2,h3,h4,h5,h6⟩
def AllFine (l:List Ic.Tree):Prop:= ∀y∈l,FineT y∧ ∀z∈y.l,FineT z
theorem fine_of {l:List DT} (h:AllFine (l.map DT.tree)): ∀y∈l,Fine y∧ ∀z∈y.l,Fine z:=fun y hy=>by
 obtain ⟨h1,h2⟩:=h _ (List.mem_map_of_mem hy)
 refine ⟨Fine.of h1,fun z hz=>Fine.of (h2 _ ?_)⟩
 rw [DT.tree_l]
 exact List.mem_map_of_mem hz
def costLT (l:List Ic.Tree):Nat:=(l.map fun x=>2*cost x.h+20).sum
def costTT (x:Ic.Tree):Nat:=2*cost x.h+costLT x.l+30
def costST (l:List Ic.Tree):Nat:=(l.map costTT).sum
theorem costL_eq (l:List DT):costL l=costLT (l.map DT.tree):=by
 unfold costL costLT
 have e:l.map (fun x=>2*cost x.h+20)=(l.map DT.tree).map (fun x=>2*cost x.h+20):=by
  rw [List.map_map]
  apply List.map_congr_left
  intro y _
  show _=2*cost y.tree.h+20
  rw [DT.tree_h]
 rw [e]
theorem costT_eq (x:DT):costT x=costTT x.tree:=by
 unfold costT costTT
 rw [DT.tree_h,DT.tree_l,costL_eq]
theorem costS_eq (l:List DT):costS l=costST (l.map DT.tree):=by
 unfold costS costST
 have e:l.map costT=(l.map DT.tree).map costTT:=by
  rw [List.map_map]
  apply List.map_congr_left
  intro y _
  exact costT_eq y
 rw [e]
def printed (x:Ic.Src):Rs.Bytes×Int:=match print x with| .error e=>([],e)| .ok F=>(F,0)
theorem print_tree {w:World} {x:Ic.Src} {l:List DT} {iv:Value} (hE:Env w) (h7:7≤w.heap.size) (hL:LayL (fun q=>q<w.heap.size) w l iv) (hx:l.map DT.tree=x.items) (hf:AllFine x.items) (hnm:x.name.length≤9223372036854775807) (hn:costST x.items+100≤lim):
  Calls Tryz.prog 11 #[.agg (Rs.scells x.name x.frm x.days iv).toArray] w fun e w'=>e= .returned (.tuple #[.string ⟨(printed x).1.toArray⟩,.int .i64 (printed x).2])∧Fr (fun _=>False) w w':=by
 refine (print_any hE h7 hL (fine_of (by rw [hx];exact hf)) hnm (by rw [costS_eq,hx];exact hn)).mono ?_
 rintro e w' ⟨h1,h2⟩
 rw [printR_eq x l hx] at h1
 exact ⟨h1,h2⟩
end Go.Proofs.YtfficindoecpfaaGreatDoor.Pt
namespace Go.Proofs.YtfficindoecpfaaGreatDoor.Pt
open Lx (bs)
def hfl (k p:Nat) (n:Rs.Bytes):Pr.Flat:= {Pr.flat0 with kind:=k,name:=n,pos:=p}
def hsrc:Pr.Source:=⟨[99],⟨2026,1,5⟩,30,[⟨{hfl 4 42 [] with days:= [false,false,false,false,false,true,true]},[]⟩,
 ⟨{hfl 9 59 [100] with of_:= [97],act:= [120],times:=1,within:=⟨3,true,[]⟩,num:=⟨5,1⟩,unit:= [101,117,114],to_:= [98],fin:=true},[]⟩,
 ⟨{hfl 13 146 [116] with names:= [[97],[98]]},[{hfl 14 169 [112] with of_:= [117],names:= [[97]]}]⟩]⟩
theorem parse_ht:Pr.parse (bs ⟨#[99,111,110,116,114,97,99,116,32,99,32,102,114,111,109,32,50,48,50,54,45,48,49,45,48,53,32,102,111,114,32,48,51,48,32,100,97,121,115,32,59,32,119,101,101,107,101,110,100,32,115,117,110,44,115,97,116,59,32,100,117,116,121,32,100,32,111,102,32,97,32,58,32,120,32,49,32,116,105,109,101,115,32,119,105,116,104,105,110,32,51,32,98,117,115,105,110,101,115,115,32,100,97,121,115,32,103,114,97,99,101,32,48,32,100,97,121,115,32,118,97,108,117,101,32,53,47,49,32,101,117,114,32,116,111,32,98,32,102,105,110,97,108,32,59,32,116,101,109,112,108,97,116,101,32,116,32,40,32,97,32,44,32,98,32,41,32,123,32,105,110,99,108,117,100,101,32,117,32,97,115,32,112,32,40,32,97,32,41,32,59,32,125]⟩)= .ok hsrc:=by kernel_rfl
def hcan:Rs.Bytes:= [99,111,110,116,114,97,99,116,32,99,32,102,114,111,109,32,50,48,50,54,45,49,45,53,32,102,111,114,32,51,48,32,100,97,121,115,59]++ [10]++ [119,101,101,107,101,110,100,32,115,97,116,44,32,115,117,110,59]++ [10]++ [100,117,116,121,32,100,32,111,102,32,97,58,32,120,32,119,105,116,104,105,110,32,51,32,98,117,115,105,110,101,115,115,32,100,97,121,115,32,118,97,108,117,101,32,53,32,101,117,114,32,116,111,32,98,32,102,105,110,97,108,59]++ [10]++ [116,101,109,112,108,97,116,101,32,116,40,97,44,32,98,41,32,123]++ [10]++ [32,32,105,110,99,108,117,100,101,32,117,32,97,115,32,112,40,97,41,59]++ [10]++ [125]++ [10]
theorem print_ht:printed (rss hsrc)=(hcan,0):=by kernel_rfl
def zsrc:Ic.Src:=⟨[],⟨0,0,0⟩,0,[]⟩
theorem print_hz:printed zsrc=([],1):=by kernel_rfl
def hact (o:Rs.Bytes):Rs.Item:= {rsi (hfl 8 0 [97]) with word:=1,of_:=o}
def asrc (o:Rs.Bytes):Ic.Src:=⟨[99],⟨0,0,0⟩,0,[.node (hact o) []]⟩
def acan:Rs.Bytes:= [99,111,110,116,114,97,99,116,32,99,32,102,114,111,109,32,48,45,48,45,48,32,102,111,114,32,48,32,100,97,121,115,59]++ [10]++ [97,99,116,32,97,32,98,121,32,110,97,116,117,114,101,59]++ [10]
theorem print_ha:printed (asrc [])=(acan,0):=by kernel_rfl
theorem print_hn:printed (asrc [110,97,116,117,114,101])=([],1):=by kernel_rfl
def okB (h:Rs.Item):Bool:=decide (h.name.length≤1000000)&&decide (h.of_.length≤1000000)&&decide (h.act.length≤1000000)&&decide (h.by_.length≤1000000)&&decide (h.til.length≤1000000)&&decide (h.unit.length≤1000000)&&decide (h.sum.length≤1000000)&&decide (h.give.length≤1000000)&&decide (h.to_.length≤1000000)&&decide (h.within.name.length≤1000000)&&decide (h.grace.name.length≤1000000)&&h.conds.all (fun c=>decide (c.name.length≤1000000))&&h.names.all (fun c=>decide (c.length≤1000000))
def fineB (x:Ic.Tree):Bool:=okB x.h&&decide (x.h.days.length=7)&&decide (x.l.length≤1048576)&&decide (x.h.conds.length≤1048576)&&decide (x.h.dates.length≤1048576)&&decide (x.h.names.length≤1048576)
theorem fine_b {x:Ic.Tree} (h:fineB x=true):FineT x:=by
 unfold fineB okB at h
 simp only [Bool.and_eq_true,decide_eq_true_eq,List.all_eq_true] at h
 obtain ⟨⟨⟨⟨⟨⟨⟨⟨⟨⟨⟨⟨⟨⟨⟨⟨⟨a1,a2⟩,a3⟩,a4⟩,a5⟩,a6⟩,a7⟩,a8⟩,a9⟩,a10⟩,a11⟩,a12⟩,a13⟩,b1⟩,b2⟩,b3⟩,b4⟩,b5⟩:=h
 exact ⟨⟨by omega,by omega,by omega,by omega,by omega,by omega,by omega,by omega,by omega,by omega,by omega,fun c hc=>by have:=a12 c hc;omega,fun c hc=>by have:=a13 c hc;omega⟩,b1,b2,b3,b4,b5⟩
def allB (l:List Ic.Tree):Bool:=l.all fun y=>fineB y&&y.l.all fineB
theorem all_b {l:List Ic.Tree} (h:allB l=true):AllFine l:=by
 unfold allB at h
 simp only [Bool.and_eq_true,List.all_eq_true] at h
 exact fun y hy=>⟨fine_b (h y hy).1,fun z hz=>fine_b ((h y hy).2 z hz)⟩
theorem fine_ht:AllFine (rss hsrc).items:=all_b (by kernel_rfl)
theorem fine_ha (o:Rs.Bytes) (ho:o.length≤1000000):AllFine (asrc o).items:=by
 intro y hy
 rcases List.mem_singleton.1 hy with rfl
 refine ⟨⟨?_,rfl,Nat.zero_le _,Nat.zero_le _,Nat.zero_le _,Nat.zero_le _⟩,fun z hz=>by cases hz⟩
 constructor
 all_goals first|exact Nat.le_trans ho (by decide)|exact Nat.le_of_ble_eq_true rfl|(intro c hc;cases hc)
theorem cost_ht:costST (rss hsrc).items+100≤lim:=Nat.le_of_ble_eq_true (by kernel_rfl)
theorem cost_hz:costST zsrc.items+100≤lim:=Nat.le_of_ble_eq_true (by kernel_rfl)
theorem cost_ha (o:Rs.Bytes):costST (asrc o).items+100≤lim:=Nat.le_of_ble_eq_true (by kernel_rfl)
end Go.Proofs.YtfficindoecpfaaGreatDoor.Pt
namespace Go.Proofs.YtfficindoecpfaaGreatDoor.Pt
open Go.RowKit Mem Vw
open Ic (RowB DT Lay LayL)
theorem wpList_builtS {ops:Array Oper} {rest:List Oper} {o:Oper} {a:Act} {w:World} {Q:Exit→Act→World→Prop} (hg:o.guard=none) (t:TypeId) (n:Nat) (parts:Array (Nat×Operand)) (hop:o.op= .buildSlice t n parts) (ps:Array (Nat×Value))
  (hp:parts.map (fun (i,x)=>(i,a.eval x))=ps) (v:Value) (w':World) (hb:(Instr.buildSlice t n ps).run Tryz.prog w= .ok v w') (h:wpList Tryz.prog ops Q rest (a.put o.dst v) w'):wpList Tryz.prog ops Q (o::rest) a w:=by
 refine wpList_plain hg fun K hK=>?_
 unfold Oper.wp
 simp [execOp,hop,hp,hb,Result.andThen]
 exact hK _ _ h
theorem eql_can (W:World):(binOp .eql 9 (.string ⟨hcan.toArray⟩) (.string ⟨#[99,111,110,116,114,97,99,116,32,99,32,102,114,111,109,32,50,48,50,54,45,49,45,53,32,102,111,114,32,51,48,32,100,97,121,115,59,10,119,101,101,107,101,110,100,32,115,97,116,44,32,115,117,110,59,10,100,117,116,121,32,100,32,111,102,32,97,58,32,120,32,119,105,116,104,105,110,32,51,32,98,117,115,105,110,101,115,115,32,100,97,121,115,32,118,97,108,117,101,32,53,32,101,117,114,32,116,111,32,98,32,102,105,110,97,108,59,10,116,101,109,112,108,97,116,101,32,116,40,97,44,32,98,41,32,123,10,32,32,105,110,99,108,117,100,101,32,117,32,97,115,32,112,40,97,41,59,10,125,10]⟩)).run Tryz.prog W= .ok (.bool true) W:=by kernel_rfl
theorem eql_act (W:World):(binOp .eql 9 (.string ⟨acan.toArray⟩) (.string ⟨#[99,111,110,116,114,97,99,116,32,99,32,102,114,111,109,32,48,45,48,45,48,32,102,111,114,32,48,32,100,97,121,115,59,10,97,99,116,32,97,32,98,121,32,110,97,116,117,114,101,59,10]⟩)).run Tryz.prog W= .ok (.bool true) W:=by kernel_rfl
theorem build_src0 (w:World):(Instr.build 26 #[]).run Tryz.prog w= .ok (.agg (Rs.scells zsrc.name zsrc.frm zsrc.days Vw.nil).toArray) w:=by kernel_rfl
theorem build_act (w:World):(Instr.build 49 #[(0,.int .i64 8),(1,.string ⟨#[97]⟩),(5,.int .i64 1)]).run Tryz.prog w= .ok (.agg (Rs.icells (hact []) Vw.nil Vw.nil Vw.nil Vw.nil).toArray) w:=by kernel_rfl
theorem bslice_act (w:World):(Instr.buildSlice 24 1 #[(0,.agg (Rs.icells (hact []) Vw.nil Vw.nil Vw.nil Vw.nil).toArray)]).run Tryz.prog w= .ok (.slice (some ⟨w.heap.size,0,none⟩) 1 1) (w.alloc (.cells (Rs.icells (hact []) Vw.nil Vw.nil Vw.nil Vw.nil).toArray 49)):=by kernel_rfl
theorem build_srca (A:Option Addr) (n c:Nat) (w:World):(Instr.build 26 #[(0,.string ⟨#[99]⟩),(3,.slice A n c)]).run Tryz.prog w= .ok (.agg (Rs.scells (asrc []).name (asrc []).frm (asrc []).days (.slice A n c)).toArray) w:=by kernel_rfl
theorem lay_one {W:World} {g:Nat} {h:Rs.Item} (hc:h.conds= []) (hd:h.dates= []) (hn:h.names= []) (hb:W.heap[g]?=some (.cells (Rs.icells h Vw.nil Vw.nil Vw.nil Vw.nil).toArray 49 (0,0))):LayL (fun q=>q<W.heap.size) W [DT.node h Vw.nil Vw.nil Vw.nil Vw.nil []] (.slice (some ⟨g,0,none⟩) 1 1):=by
 have hg:=jq7 hb
 refine ⟨⟨⟨some ⟨g,0,none⟩,1,rfl,⟨Nat.le_refl _,by decide⟩,.inr ⟨g,0,rfl,hg,fun i x hx=>?_⟩⟩,fun g' o n c e _=>?_⟩,fun x hx=>?_⟩
 ·match i,hx with
  |0,hx=>
   have hx:some (Rs.icells h Vw.nil Vw.nil Vw.nil Vw.nil)=some x:=hx
   injection hx with hx
   subst hx
   exact At.of_blk hb
  |i+1,hx=>cases i<;>cases hx
 ·injection e with e3 _ _;injection e3 with e4;injection e4 with e5 _ _;subst e5;exact hg
 ·rcases List.mem_singleton.1 hx with rfl
  exact .node _ _ _ _ _ _ (by rw [hc];exact RowB.nil _ W 2) (by rw [hd];exact RowB.nil _ W 3) (by rw [hn];exact RowB.nil _ W 1) (RowB.nil _ W 33) (fun x hx=>by cases hx)
theorem head_any (w:World) (hE:Env w) (hW:Pr.Wks w) (h7:7≤w.heap.size):
  Calls Tryz.prog 9 #[] w fun e w'=>e= .returned (.bool true)∧Fr (fun _=>False) w w':=by
 have HE:=hdd hE;have HW:=hdd hW;have H7:=hdd h7
 clear hE hW h7
 go_enter Tryz.func9,Tryz.ntmps9
 go_wp2_with fail
 refine (Pr.parse_okv _ _ (by decide) HW.o hsrc parse_ht).mono ?_
 rintro e w1 ⟨⟨si,rfl,hv⟩,hb⟩
 obtain ⟨ds,htr,hlay⟩:=lay_of hv
 obtain ⟨A,cap,hsi,_,_⟩:=hlay.slice
 subst hsi
 have HTR:=hdd htr
 have HL1:=hdd hlay
 have HF1:Hid (Fr (fun _=>False) w w1):=Fr.of_below hb
 clear hv hb htr hlay
 go_upto_region 2 with (refine wpList_store_row rfl 26 _ _ rfl w1.heap.size (Rs.scells (rss hsrc).name (rss hsrc).frm (rss hsrc).days (.slice A ds.length cap)).toArray rfl rfl 26 _ (jq2 rfl) (info_src _ _ _ _) rfl (one_src _ _ _ _ _ _) ?_;rw [World.setRow_alloc_new])
 obtain ⟨g1,HG1⟩: ∃q,Hid (w1.heap.size=q):=⟨_,rfl⟩
 obtain ⟨w2,hw2⟩: ∃u,w1.alloc (.cells (Rs.scells (rss hsrc).name (rss hsrc).frm (rss hsrc).days (.slice A ds.length cap)).toArray 26)=u:=⟨_,rfl⟩
 rw [hw2,HG1.o]
 have hfa:Fr (fun _=>False) w1 w2:=by rw [←hw2];exact (Fr.refl _ w1).alloc _
 have HB2:Hid (w2.heap[g1]?=some (.cells (Rs.scells (rss hsrc).name (rss hsrc).frm (rss hsrc).days (.slice A ds.length cap)).toArray 26 (0,0))):=by rw [←hw2];exact jq2 HG1.o.symm
 have HL2:Hid (LayL (fun q=>q<w2.heap.size) w2 ds (.slice A ds.length cap)):=(HL1.o.fr hfa (fun _ _ e=>e)).mono (fun q hq _=>hq)
 have HF2:Hid (Fr (fun _=>False) w w2):=HF1.o.trans hfa
 clear hw2 hfa
 iterate 1 go_step
 refine wpList_load_row rfl 26 _ rfl g1 rfl 26 (Rs.scells (rss hsrc).name (rss hsrc).frm (rss hsrc).days (.slice A ds.length cap)).toArray (0,0) _ HB2.o Tryz.underlying26 rfl (info_src _ _ _ _) ?_
 simp only [Act.put,List.setIfInBounds_toArray,List.set_cons_zero,List.set_cons_succ]
 go_wp2_with fail
 refine (print_tree (x:=rss hsrc) (l:=ds) (iv:= .slice A ds.length cap) (HE.o.fr HF2.o (fun _ _ e=>e)) (Nat.le_trans H7.o HF2.o.size) HL2.o HTR.o fine_ht (by decide) cost_ht).mono ?_
 rintro e w3 ⟨rfl,hf⟩
 rw [print_ht]
 have HF3:Hid (Fr (fun _=>False) w w3):=HF2.o.trans hf
 clear hf
 have hb0:=build_src0
 go_wp2_with fail
 refine (print_tree (x:=zsrc) (l:= []) (iv:=Vw.nil) (HE.o.fr HF3.o (fun _ _ e=>e)) (Nat.le_trans H7.o HF3.o.size) ⟨RowB.nil _ _ 33,fun x hx=>by cases hx⟩ rfl (fun y hy=>by cases hy) (by decide) cost_hz).mono ?_
 rintro e w4 ⟨rfl,hf⟩
 rw [print_hz]
 have HF4:Hid (Fr (fun _=>False) w w4):=HF3.o.trans hf
 clear hf hb0
 go_upto_region 4 with fail
 iterate 1 go_step
 refine Pr.wpList_build rfl 49 _ rfl #[(0,.int .i64 8),(1,.string ⟨#[97]⟩),(5,.int .i64 1)] ?_ _ (build_act _) ?_
 ·simp [Act.eval]
 simp only [Act.put,List.setIfInBounds_toArray,List.set_cons_zero,List.set_cons_succ]
 refine wpList_builtS rfl 24 1 _ rfl #[(0,.agg (Rs.icells (hact []) Vw.nil Vw.nil Vw.nil Vw.nil).toArray)] ?_ _ _ (bslice_act w4) ?_
 ·simp [Act.eval]
 simp only [Act.put,List.setIfInBounds_toArray,List.set_cons_zero,List.set_cons_succ]
 obtain ⟨gi,HGI⟩: ∃q,Hid (w4.heap.size=q):=⟨_,rfl⟩
 obtain ⟨w5,hw5⟩: ∃u,w4.alloc (.cells (Rs.icells (hact []) Vw.nil Vw.nil Vw.nil Vw.nil).toArray 49)=u:=⟨_,rfl⟩
 rw [hw5,HGI.o]
 have hfa:Fr (fun _=>False) w4 w5:=by rw [←hw5];exact (Fr.refl _ w4).alloc _
 have HI5:Hid (w5.heap[gi]?=some (.cells (Rs.icells (hact []) Vw.nil Vw.nil Vw.nil Vw.nil).toArray 49 (0,0))):=by rw [←hw5];exact jq2 HGI.o.symm
 have HF5:Hid (Fr (fun _=>False) w w5):=HF4.o.trans hfa
 have HGW:Hid (w.heap.size≤gi):=by show _≤_;rw [←HGI.o];exact HF4.o.size
 clear hw5 hfa
 refine Pr.wpList_build rfl 26 _ rfl #[(0,.string ⟨#[99]⟩),(3,.slice (some ⟨gi,0,none⟩) 1 1)] ?_ _ (build_srca _ _ _ _) ?_
 ·simp [Act.eval]
 simp only [Act.put,List.setIfInBounds_toArray,List.set_cons_zero,List.set_cons_succ]
 iterate 3 go_step
 refine wpList_store_row rfl 26 _ _ rfl w5.heap.size (Rs.scells (asrc []).name (asrc []).frm (asrc []).days (.slice (some ⟨gi,0,none⟩) 1 1)).toArray rfl rfl 26 _ (jq2 rfl) (info_src _ _ _ _) rfl (one_src _ _ _ _ _ _) ?_
 simp only [Act.put,List.setIfInBounds_toArray,List.set_cons_zero,List.set_cons_succ]
 rw [World.setRow_alloc_new]
 obtain ⟨gs,HGS⟩: ∃q,Hid (w5.heap.size=q):=⟨_,rfl⟩
 obtain ⟨w6,hw6⟩: ∃u,w5.alloc (.cells (Rs.scells (asrc []).name (asrc []).frm (asrc []).days (.slice (some ⟨gi,0,none⟩) 1 1)).toArray 26)=u:=⟨_,rfl⟩
 rw [hw6,HGS.o]
 have hfa:Fr (fun _=>False) w5 w6:=by rw [←hw6];exact (Fr.refl _ w5).alloc _
 have HI6:Hid (w6.heap[gi]?=some (.cells (Rs.icells (hact []) Vw.nil Vw.nil Vw.nil Vw.nil).toArray 49 (0,0))):=hfa.blk HI5.o (fun e=>e)
 have HS6:Hid (w6.heap[gs]?=some (.cells (Rs.scells (asrc []).name (asrc []).frm (asrc []).days (.slice (some ⟨gi,0,none⟩) 1 1)).toArray 26 (0,0))):=by rw [←hw6];exact jq2 HGS.o.symm
 have HF6:Hid (Fr (fun _=>False) w w6):=HF5.o.trans hfa
 have HGN:Hid (gs≠gi):=by
  show gs≠gi
  have h1:=jq7 HI5.o
  have h2:=HGS.o
  omega
 clear hw6 hfa
 go_upto_region 5 with fail
 iterate 1 go_step
 refine wpList_load_row rfl 26 _ rfl gs rfl 26 (Rs.scells (asrc []).name (asrc []).frm (asrc []).days (.slice (some ⟨gi,0,none⟩) 1 1)).toArray (0,0) _ HS6.o Tryz.underlying26 rfl (info_src _ _ _ _) ?_
 simp only [Act.put,List.setIfInBounds_toArray,List.set_cons_zero,List.set_cons_succ]
 go_wp2_with fail
 refine (print_tree (x:=asrc []) (l:= [DT.node (hact []) Vw.nil Vw.nil Vw.nil Vw.nil []]) (iv:= .slice (some ⟨gi,0,none⟩) 1 1) (HE.o.fr HF6.o (fun _ _ e=>e)) (Nat.le_trans H7.o HF6.o.size) (lay_one rfl rfl rfl HI6.o) (by rw [List.map_cons,DT.tree];rfl) (fine_ha [] (by decide)) (by decide) (cost_ha [])).mono ?_
 rintro e w7 ⟨rfl,hf⟩
 rw [print_ha]
 have HF7:Hid (Fr (fun _=>False) w w7):=HF6.o.trans hf
 have HI7:Hid (w7.heap[gi]?=some (.cells (Rs.icells (hact []) Vw.nil Vw.nil Vw.nil Vw.nil).toArray 49 (0,0))):=hf.blk HI6.o (fun e=>e)
 have HS7:Hid (w7.heap[gs]?=some (.cells (Rs.scells (asrc []).name (asrc []).frm (asrc []).days (.slice (some ⟨gi,0,none⟩) 1 1)).toArray 26 (0,0))):=hf.blk HS6.o (fun e=>e)
 clear hf
 have e5:w7.cell? ⟨gs,5,none⟩=some (.slice (some ⟨gi,0,none⟩) 1 1):=jq0 HS7.o 5
 have e3:w7.cell? ⟨gi,3,none⟩=some (.string ⟨#[]⟩):=jq0 HI7.o 3
 have f3:w7.frozen? ⟨gi,3,none⟩=false:=jq1 HI7.o 3
 obtain ⟨w8,hw8⟩: ∃u,w7.setCell ⟨gi,3,none⟩ (.string ⟨#[110,97,116,117,114,101]⟩)=u:=⟨_,rfl⟩
 have hf:Fr (fun q=>q=gi) w7 w8:=by rw [←hw8];exact (Fr.refl (fun q=>q=gi) w7).setb 3 _
 have HI8:Hid (w8.heap[gi]?=some (.cells (Rs.icells (hact [110,97,116,117,114,101]) Vw.nil Vw.nil Vw.nil Vw.nil).toArray 49 (0,0))):=by rw [←hw8];exact jq9 HI7.o 3 _
 have HS8:Hid (w8.heap[gs]?=some (.cells (Rs.scells (asrc []).name (asrc []).frm (asrc []).days (.slice (some ⟨gi,0,none⟩) 1 1)).toArray 26 (0,0))):=hf.blk HS7.o (fun e=>HGN.o e)
 have HF8:Hid (Fr (fun _=>False) w w8):=HF7.o.trans' hf (fun i hi e=>by have h1:=HGW.o;have e:i=gi:=e;omega)
 clear hf
 go_upto_region 7 with fail
 clear hw8 e5 e3 f3
 iterate 1 go_step
 refine wpList_load_row rfl 26 _ rfl gs rfl 26 (Rs.scells (asrc []).name (asrc []).frm (asrc []).days (.slice (some ⟨gi,0,none⟩) 1 1)).toArray (0,0) _ HS8.o Tryz.underlying26 rfl (info_src _ _ _ _) ?_
 simp only [Act.put,List.setIfInBounds_toArray,List.set_cons_zero,List.set_cons_succ]
 go_wp2_with fail
 refine (print_tree (x:=asrc [110,97,116,117,114,101]) (l:= [DT.node (hact [110,97,116,117,114,101]) Vw.nil Vw.nil Vw.nil Vw.nil []]) (iv:= .slice (some ⟨gi,0,none⟩) 1 1) (HE.o.fr HF8.o (fun _ _ e=>e)) (Nat.le_trans H7.o HF8.o.size) (lay_one rfl rfl rfl HI8.o) (by rw [List.map_cons,DT.tree];rfl) (fine_ha [110,97,116,117,114,101] (by decide)) (by decide) (cost_ha _)).mono ?_
 rintro e w9 ⟨rfl,hf⟩
 rw [print_hn]
 have HF9:Hid (Fr (fun _=>False) w w9):=HF8.o.trans hf
 clear hf
 have hq1:=eql_can
 have hq2:=eql_act
 go_wp2_with fail
 go_ret
 exact ⟨rfl,HF9.o⟩
end Go.Proofs.YtfficindoecpfaaGreatDoor.Pt
namespace Go.Proofs.YtfficindoecpfaaGreatDoor.Pt
open Go.ChangeShapes Go.WideShapes Go.ChangeAt Go.RowKit Mem
def laidL:List (String×DataW Unit):= [("math/bits.deBruijn32tab",Rows.laid_math_bits_deBruijn32tab),("math/bits.deBruijn64tab",Rows.laid_math_bits_deBruijn64tab),("internal/strconv.uint64pow10",Rows.laid_internal_strconv_uint64pow10),("estoppel/parser.weekdays",Rows.laid_estoppel_parser_weekdays),("estoppel/printer.weekdays",Rows.laid_estoppel_printer_weekdays),("estoppel/printer.statuses",Rows.laid_estoppel_printer_statuses)]
theorem kz6 {P:Program} {W:World} {x:String×DataW Unit} {rest:List (String×DataW Unit)} (h:laidMet P (x::rest) W):laidMet P rest W:=by
 obtain ⟨ps,⟨g,t,cs,f,p,q,h1,h2,h3,h4,h5,h6⟩,hn,hc⟩:=h
 exact ⟨q,h5,(List.nodup_append.1 (h6▸hn)).2.1,fun b off hm=>hc b off (by rw [h6];exact List.mem_append_right _ hm)⟩
theorem strs_of_head {W:World} {name:String} {l:List Rs.Bytes} {rest:List (String×DataW Unit)} {g:Nat} {t:TypeId} {n:Nat} (hg:Tryz.prog.globalNamed name=some g) (hty:(Tryz.prog.globals[g]?).map (·.type)=some t) (ht:Tryz.prog.underlying t=some (.array n 9)) (hn:l.length=n)
  (h:laidMet Tryz.prog ((name,.agg (l.map fun x=> .lit (.string x)))::rest) W): ∀i x,l[i]?=some x→W.cell? ⟨g,i,none⟩=some (.string ⟨x.toArray⟩):=by
 obtain ⟨ps,⟨g0,t0,cs0,f0,p0,q0,hg0,ht0,hv0,hd0,_,_⟩,_,_⟩:=h
 obtain rfl:=Option.some.inj (hg.symm.trans hg0)
 obtain rfl:=Option.some.inj (hty.symm.trans ht0)
 have hcell:=fun i=>World.var?_cell hg0 hv0 i
 obtain ⟨xs,m1,rfl,hx1,hlen,hn7,hel⟩:=DataW.trod_array ht hd0
 have c1:Tryz.prog.cellsOf 9=1:=by kernel_rfl
 rw [c1] at hel
 have hxs:(l.map fun x=>(DataW.lit (.string x):DataW Unit))=xs.map (·.1):=by
  have e0:(DataW.agg (l.map fun x=> .lit (.string x)):DataW Unit)= .agg (xs.map (·.1)):=by simp only [Prod.mk.injEq] at hx1;exact hx1.1
  injection e0
 intro i x hx
 have hi:i<l.length:=(List.getElem?_eq_some_iff.1 hx).1
 have hl2:l.length=xs.length:=by have:=congrArg List.length hxs;simpa using this
 have h1:=hel i (by omega)
 have hxi:i<xs.length:=by omega
 rw [List.getElem?_eq_getElem hxi,Nat.mul_one] at h1
 obtain ⟨s,e1,e2,_⟩:=DataW.trod_string Tryz.underlying9 h1
 have e3:(xs.map (·.1))[i]?=some (.lit (.string s.data.toList)):=by rw [List.getElem?_map,List.getElem?_eq_getElem hxi,e2];rfl
 rw [←hxs,List.getElem?_map,hx] at e3
 simp only [Option.map_some,Option.some.injEq,DataW.lit.injEq,Lit.string.injEq] at e3
 rw [hcell i]
 have e5:cs0.toList[i]?=some (.string s):=by
  have:=congrArg (fun l=>l[0]?) e1
  simpa [List.getElem?_take,List.getElem?_drop] using this
 rw [e3]
 simpa using e5
theorem gSta:Tryz.prog.globalNamed "estoppel/printer.statuses" =some 0:=by kernel_rfl
theorem gWkd:Tryz.prog.globalNamed "estoppel/printer.weekdays" =some 1:=by kernel_rfl
theorem gPar:Tryz.prog.globalNamed "estoppel/parser.weekdays" =some 2:=by kernel_rfl
theorem gPow:Tryz.prog.globalNamed "internal/strconv.uint64pow10" =some 4:=by kernel_rfl
theorem gDeb:Tryz.prog.globalNamed "math/bits.deBruijn64tab" =some 6:=by kernel_rfl
theorem env_of_laid {W:World} (h:laidMetH Tryz.prog laidL W) (hs:W.ShapedOpen Tryz.prog):Env W∧Pr.Wks W∧7≤W.heap.size:=by
 rw [MakeChecks.laidMetH_plain _ _ _ (by kernel_rfl)] at h
 have h2:=kz6 (kz6 h)
 have h3:=kz6 h2
 have h4:=kz6 h3
 have h5:=kz6 h4
 have k3:=strs_of_head (l:=Pr.wdays) gPar (by kernel_rfl) Tryz.underlying135 rfl h3
 have k4:=strs_of_head (l:=weekNames) gWkd (by kernel_rfl) Tryz.underlying135 rfl h4
 have k5:=strs_of_head (l:= [statusT 1,statusT 2,statusT 3,statusT 4]) gSta (by kernel_rfl) Tryz.underlying129 rfl h5
 refine ⟨⟨k4,k5,?_,?_⟩,⟨?_,k3⟩,?_⟩
 ·exact cell_of_shapedOpen_int (zero:= #[.int .i64 0]) hs (by decide) (by kernel_rfl) (by kernel_rfl) (by kernel_rfl) (by kernel_rfl) Tryz.underlying3
 ·exact Lib.tabIs_of_head gPow (by kernel_rfl) Tryz.underlying161 Tryz.underlying152 (by kernel_rfl) (by kernel_rfl) h2
 ·have h0:=k3 0 _ rfl
  rcases Nat.lt_or_ge 2 W.heap.size with hlt|hge
  ·exact hlt
  ·unfold World.cell? at h0
   simp only [Array.getElem?_eq_none hge] at h0
   cases h0
 ·obtain ⟨ps,⟨g0,t0,cs0,f0,p0,q0,hg0,ht0,hv0,_,_,_⟩,_,_⟩:=kz6 h
  unfold World.var? at hv0
  rw [gDeb] at hv0
  simp only [Option.bind_some] at hv0
  rcases Nat.lt_or_ge 6 W.heap.size with hlt|hge
  ·exact hlt
  ·rw [Array.getElem?_eq_none hge] at hv0;cases hv0
end Go.Proofs.YtfficindoecpfaaGreatDoor.Pt
