/-
  Items with other offsets: what the law's shifted returns, at any depth.
-/
import Derived.Test.YtfficindoecpfaaGreatDoorPriPos
import Derived.Test.YtfficindoecpfaaGreatDoorApp
set_option maxHeartbeats 64000000
set_option maxRecDepth 100000
set_option linter.unusedVariables false
set_option linter.unusedSimpArgs false
namespace Go.Proofs.YtfficindoecpfaaGreatDoor.Pt
open Go.RowKit Mem Vw Rs
open Ic (RowB DT Lay LayL tsz jv9 jv4)
theorem bsl_x (h:Rs.Item) (a1 a2 a3 a4:Option Addr) (n1 n2 n3 n4 c1 c2 c3 c4:Nat) (w:World):(Instr.buildSlice 24 1 #[(0,.agg (icells h (.slice a1 n1 c1) (.slice a2 n2 c2) (.slice a3 n3 c3) (.slice a4 n4 c4)).toArray)]).run Tryz.prog w= .ok (.slice (some ⟨w.heap.size,0,none⟩) 1 1) (w.alloc (.cells (icells h (.slice a1 n1 c1) (.slice a2 n2 c2) (.slice a3 n3 c3) (.slice a4 n4 c4)).toArray 49)):=by kernel_rfl
theorem bsl_lay {B:Nat→Prop} {W:World} {x:DT} (h:Lay B W x) (w:World):(Instr.buildSlice 24 1 #[(0,.agg x.cells.toArray)]).run Tryz.prog w= .ok (.slice (some ⟨w.heap.size,0,none⟩) 1 1) (w.alloc (.cells x.cells.toArray 49)):=by
 obtain ⟨A1,c1,e1,_,_⟩:=h.conds.slice
 obtain ⟨A2,c2,e2,_,_⟩:=h.dates.slice
 obtain ⟨A3,c3,e3,_,_⟩:=h.names.slice
 obtain ⟨A4,c4,e4,_,_⟩:=h.items.slice
 rw [Ic.DT.cells_eq,e1,e2,e3,e4]
 exact bsl_x _ _ _ _ _ _ _ _ _ _ _ _ _ _
theorem all_one {cs:List Value} (h:cs.toArray.all (·.oneCell')=true): ∀u∈cs,u.oneCell'=true:=by
 rw [List.all_toArray,List.all_eq_true] at h
 exact h
theorem own_at {w:World} {base:Nat} {e:TypeId} {size:Nat} {v:Value} {n:Nat} {xs:List Value} (h:w.ownsRow base e size v n xs) {g o k c:Nat} (hv:v= .slice (some ⟨g,o,none⟩) k c):base≤g:=by
 obtain ⟨_,h2⟩:=h
 rcases h2 with ⟨h2,_⟩|⟨g',cap,cur,h3,h4,_⟩
 ·rw [hv] at h2;cases h2
 ·rw [hv] at h3
  injection h3 with h3 _ _;injection h3 with h3;injection h3 with h3 _ _
  omega
theorem row_one {w:World} {g:Nat} {x:DT} (h:w.heap[g]?=some (.cells x.cells.toArray 49 (0,0))):Row w (.slice (some ⟨g,0,none⟩) 1 1) 33 ([x].map DT.cells):=by
 refine ⟨some ⟨g,0,none⟩,1,rfl,⟨Nat.le_refl _,by decide⟩,.inr ⟨g,0,rfl,jq7 h,fun i y hy=>?_⟩⟩
 match i,hy with
 |0,hy=>
  have hy:some x.cells=some y:=hy
  injection hy with hy
  subst hy
  exact At.of_blk h
 |i+1,hy=>cases i<;>cases hy
structure ShL (W:World) (W0:Nat) (l:List DT) (j:Nat) (v:Value) (ds:List DT) (wr:World):Prop where
 fr:Fr (fun _=>False) W wr
 len:ds.length=j
 eq: ∀(k:Nat) (x y:DT),l[k]?=some x→ds[k]?=some y→EqD x.tree y.tree
 own:wr.ownsRow W.heap.size 49 33 v j (ds.flatMap DT.cells)
 lay: ∀y∈ds,Lay (fun q=>(q<W0∨W.heap.size≤q)∧v.ownBlock≠some q) wr y
def Shd (W0:Nat) (W:World) (l:List DT) (e:Ending) (w':World):Prop:= ∃v ds,e= .returned v∧EqLs (l.map DT.tree) (ds.map DT.tree)∧LayL (fun q=>q<W0∨W.heap.size≤q) w' ds v∧Fr (fun _=>False) W w'
theorem ShL.start (W:World) (W0:Nat) (l:List DT):ShL W W0 l 0 (.slice none 0 0) [] W:=
 ⟨Fr.refl _ _,rfl,fun k x y _ h=>by simp at h,World.ownsRow_nil _ _ _ _,fun y hy=>by cases hy⟩
theorem ShL.next {W wr w4 w':World} {W0:Nat} {l ds:List DT} {j:Nat} {v v':Value} (h:ShL W W0 l j v ds wr) {x y:DT} (hx:l[j]?=some x) (hf:Fr (fun _=>False) wr w4) (hy:Lay (fun q=>q<W0∨wr.heap.size≤q) w4 y) (he:EqD x.tree y.tree) (hW0:W0≤W.heap.size)
  (ho:w'.ownsRow W.heap.size 49 33 v' (j+1) (ds.flatMap DT.cells++ [y].flatMap DT.cells)) (hg:w4.grownBy w' v.ownBlock) (hob:v'.ownBlock=v.ownBlock∨v'.ownBlock=some w4.heap.size):ShL W W0 l (j+1) v' (ds++ [y]) w':=by
 have hown:=h.own
 have hlen:=h.len
 have hsz:=h.fr.size
 have hlo: ∀k,v.ownBlock=some k→W.heap.size≤k∧k<wr.heap.size:=fun k hk=>own_lt hown k hk
 refine ⟨(h.fr.trans hf).grown hg (fun k hk=> .inr (hlo k hk).1),by simp [hlen],fun k a b ha hb=>?_,by rw [List.flatMap_append];exact ho,fun z hz=>?_⟩
 ·by_cases hk:k<ds.length
  ·rw [List.getElem?_append_left hk] at hb
   exact h.eq k a b ha hb
  ·rw [List.getElem?_append_right (by omega)] at hb
   have hk2:k-ds.length=0:=by
    have:=(List.getElem?_eq_some_iff.1 hb).1
    simp at this
    omega
   have hk3:k=j:=by omega
   rw [hk2] at hb
   subst hk3
   rw [hx] at ha
   injection ha with ha
   have hb:some y=some b:=hb
   injection hb with hb
   subst ha;subst hb
   exact he
 ·have key:Lay (fun q=>((q<W0∨W.heap.size≤q)∧v.ownBlock≠some q)∧q<w4.heap.size) w4 z:=by
   rcases List.mem_append.1 hz with hz|hz
   ·exact ((h.lay z hz).fr hf (fun _ _ e=>e)).mono (fun g hg h=>⟨h,hg⟩)
   ·rcases List.mem_singleton.1 hz with rfl
    refine hy.mono (fun g hg h=>⟨⟨?_,fun e=>?_⟩,hg⟩)
    ·rcases h with h|h
     ·exact .inl h
     ·exact .inr (by omega)
    ·have:=hlo g e
     omega
  refine (key.fr (Fr.of_grown hg) (fun g h e=>h.1.2 e)).mono (fun g _ h=>⟨h.1.1,fun e=>?_⟩)
  rcases hob with hob|hob
  ·exact h.1.2 (hob.symm.trans e)
  ·rw [hob] at e
   injection e with e
   omega
theorem ShL.done {W wr:World} {W0:Nat} {l ds:List DT} {v:Value} (h:ShL W W0 l l.length v ds wr):Shd W0 W l (.returned v) wr:=by
 have ho:wr.ownsRow W.heap.size 49 33 v ds.length (ds.flatMap DT.cells):=by rw [h.len];exact h.own
 exact ⟨v,ds,rfl,(eqLs_dt l ds).2 ⟨h.len,h.eq⟩,⟨⟨Row.of_own ho (fun y _=>y.cells_len),fun g o n c e _=> .inr (own_at ho e)⟩,fun y hy=>(h.lay y hy).mono (fun g _ h=>h.1)⟩,h.fr⟩
theorem shifted_any (b:Int) (W0:Nat): ∀(n:Nat) (l:List DT) (v:Value) (W:World),tsz l≤n→n≤700→W0≤W.heap.size→LayL (fun q=>q<W0) W l v→Calls Tryz.prog 15 #[v,.int .i64 b] W (Shd W0 W l):=by
 intro n
 induction n using Nat.strongRecOn with
 |ind n ih=>
 intro l v W hn h700 hW0 hL
 obtain ⟨A,cap,rfl,hc1,hc2⟩:=hL.slice
 have HIH:Hid (∀(x:DT) (w:World),x∈l→W0≤w.heap.size→LayL (fun q=>q<W0) w x.l x.i→Calls Tryz.prog 15 #[x.i,.int .i64 b] w (Shd W0 w x.l)):=fun x w hx h1 h2=>ih (tsz x.l) (Nat.lt_of_lt_of_le (Ic.tsz_lt hx) hn) x.l x.i w (Nat.le_refl _) (by have:=Ic.tsz_lt hx;omega) h1 h2
 have HLN:Hid (l.length≤700):=Nat.le_trans (len_tsz l) (Nat.le_trans hn h700)
 have HL:=hdd hL;have HW:=hdd hW0
 obtain ⟨j0,hj,hj0,hj1,hj2⟩:=info_parts (show (Tryz.prog.info? 49).map (fun i=>(i.zero,i.size,i.bytes))=some (some (.agg (icells (rsi Pr.flat0) Vw.nil Vw.nil Vw.nil Vw.nil).toArray),33,368) by kernel_rfl)
 have HJ:=hdd hj;have HJ0:=hdd hj0;have HJ1:=hdd hj1;have HJ2:=hdd hj2
 have hll:l.length≤9223372036854775807:=by have:=HLN.o;omega
 clear hL hW0 ih hn h700 hc1 hc2 hj hj0 hj1 hj2
 go_enter Tryz.func15,Tryz.ntmps15
 go_wp2_with fail
 go_loopw [5,6] (fun o i wr=> ∃(j:Nat) (ds:List DT),i= .int .i64 j∧j≤l.length∧Hid (ShL W W0 l j o ds wr)) (fun _ i _=>l.length-(intOf i).toNat)
 case atStart=>exact ⟨0,[],rfl,Nat.zero_le _,ShL.start W W0 l⟩
 case round=>
  obtain ⟨j,ds,rfl,hj,HS⟩:=hrel
  have i1:(0:Int)≤(j:Int):=Int.natCast_nonneg _
  by_cases hlt:j<l.length
  ·have i2:(j:Int)<(l.length:Int):=by omega
   obtain ⟨x,hx⟩: ∃x,l[j]?=some x:=⟨_,List.getElem?_eq_getElem hlt⟩
   have hmem:=List.mem_of_getElem? hx
   have hLr:LayL (fun q=>q<W0) wr l (.slice A l.length cap):=HL.o.fr HS.o.fr (fun _ _ h=>h)
   obtain ⟨g1,o1,hA1,hg1,_,hat1⟩:=hLr.at hx
   subst hA1
   have hlx:=hLr.lay x hmem
   have HONE:=hdd hlx.one
   have HIT:=hdd (jv4 x)
   have HX:=hdd hx
   have HM:=hdd hmem
   obtain ⟨h,c,d,n0,i0,li⟩:=x
   have hat1:At wr g1 (o1+j*33) (icells h c d n0 i0):=hat1
   have HAT:=hdd hat1
   have HONE:Hid ((icells h c d n0 i0).toArray.all (·.oneCell')=true):=HONE.o
   have HIT:Hid ((Tryz.prog.info? 49).map (·.size)=some (icells h c d n0 i0).length):=HIT.o
   have HLX:=hdd hlx
   have HLT:=hdd hlt
   obtain ⟨P,hP⟩: ∃P,wrap64 (h.pos+b)=P:=⟨_,rfl⟩
   have HP:=hdd hP
   clear hx hmem hLr hg1 hat1 hlx hlt hP
   go_upto_region 5 with fail
   iterate 10 go_step
   refine wpList_load_mid rfl 49 _ rfl g1 (o1+j*33) rfl (icells h c d n0 i0) _ HAT.o Tryz.underlying49 rfl HIT.o ?_
   simp only [Act.put,List.setIfInBounds_toArray,List.set_cons_zero,List.set_cons_succ]
   iterate 3 go_step
   refine wpList_store_row rfl 49 _ _ rfl wr.heap.size (icells h c d n0 i0).toArray rfl rfl 49 _ (jq2 rfl) HIT.o rfl HONE.o ?_
   simp only [Act.put,List.setIfInBounds_toArray,List.set_cons_zero,List.set_cons_succ]
   rw [World.setRow_alloc_new]
   obtain ⟨u1,hu1⟩: ∃u,wr.alloc (.cells (icells h c d n0 i0).toArray 49)=u:=⟨_,rfl⟩
   obtain ⟨q,HQ⟩: ∃q,Hid (wr.heap.size=q):=⟨_,rfl⟩
   rw [hu1,HQ.o]
   have HB1:Hid (u1.heap[q]?=some (.cells (icells h c d n0 i0).toArray 49 (0,0))):=by rw [←hu1];exact jq2 HQ.o.symm
   have HF1:Hid (Fr (fun _=>False) wr u1):=by rw [←hu1];exact (Fr.refl _ wr).alloc _
   have HQW:Hid (W.heap.size≤q):=by show _≤_;rw [←HQ.o];exact HS.o.fr.size
   have x2:u1.cell? ⟨q,2,none⟩=some (.int .i64 h.pos):=(jq0 HB1.o 2).trans rfl
   have f2:u1.frozen? ⟨q,2,none⟩=false:=jq1 HB1.o 2
   clear hu1 HAT
   go_upto_region 7 with fail
   rw [HP.o]
   obtain ⟨u2,hu2⟩: ∃u,u1.setCell ⟨q,2,none⟩ (.int .i64 P)=u:=⟨_,rfl⟩
   rw [hu2]
   have HB2:Hid (u2.heap[q]?=some (.cells (icells {h with pos:=P} c d n0 i0).toArray 49 (0,0))):=by rw [←hu2];exact jq9 HB1.o 2 _
   have HF2:Hid (Fr (fun _=>False) wr u2):=by rw [←hu2];exact HF1.o.setCell (p:=⟨q,2,none⟩) (.inr (Nat.le_of_eq HQ.o)) _
   have HSZ2:Hid (q<u2.heap.size):=jq7 HB2.o
   have x32:u2.cell? ⟨q,32,none⟩=some i0:=(jq0 HB2.o 32).trans rfl
   clear hu2 x2 f2 HB1 HF1
   go_wp2_with fail
   refine (HIH.o (.node h c d n0 i0 li) u2 HM.o (Nat.le_trans HW.o (Nat.le_trans HS.o.fr.size HF2.o.size)) ((HLX.o.fr HF2.o (fun _ _ h=>h)).items)).mono ?_
   rintro e u3 ⟨v2,es,rfl,hq,hlay,hf3⟩
   have HEQ:Hid (EqD (DT.node h c d n0 i0 li).tree (DT.node {h with pos:=P} c d n0 v2 es).tree):=(eqD_dt _ _).2 ⟨rfl,hq⟩
   have HLA:=hdd hlay
   have HB3:Hid (u3.heap[q]?=some (.cells (icells {h with pos:=P} c d n0 i0).toArray 49 (0,0))):=hf3.blk HB2.o (fun h=>h)
   have HF3:Hid (Fr (fun _=>False) wr u3):=HF2.o.trans hf3
   obtain ⟨A2,cap2,rfl,_,_⟩:=hlay.slice
   have k32:u3.cell? ⟨q,32,none⟩=some i0:=(jq0 HB3.o 32).trans rfl
   have f32:u3.frozen? ⟨q,32,none⟩=false:=jq1 HB3.o 32
   clear hq hlay hf3 x32
   go_upto_region 8 with fail
   obtain ⟨u4,hu4⟩: ∃u,u3.setCell ⟨q,32,none⟩ (.slice A2 es.length cap2)=u:=⟨_,rfl⟩
   rw [hu4]
   have HB4:Hid (u4.heap[q]?=some (.cells (icells {h with pos:=P} c d n0 (.slice A2 es.length cap2)).toArray 49 (0,0))):=by rw [←hu4];exact jq9 HB3.o 32 _
   have hfs:Fr (fun k=>k=q) u3 u4:=by rw [←hu4];exact (Fr.refl (fun k=>k=q) u3).setb 32 _
   have HF4:Hid (Fr (fun _=>False) wr u4):=by rw [←hu4];exact HF3.o.setCell (p:=⟨q,32,none⟩) (.inr (Nat.le_of_eq HQ.o)) _
   have HL4:Hid (Lay (fun g=>g<W0∨wr.heap.size≤g) u4 (.node {h with pos:=P} c d n0 (.slice A2 es.length cap2) es)):=by
    have hx4:=(HLX.o.fr HF4.o (fun _ _ h=>h)).mono (C:=fun g=>g<W0∨wr.heap.size≤g) (fun g _ h=> .inl h)
    refine Ic.Lay.mk' hx4.conds hx4.dates hx4.names ?_
    refine (HLA.o.fr hfs (fun g hg e=>?_)).mono (fun g _ hg=>?_)
    ·have h1:=HSZ2.o;have h2:=HQW.o;have h3:=HW.o
     have e:g=q:=e
     omega
    ·have h4:=HF2.o.size
     rcases hg with hg|hg
     ·exact .inl hg
     ·exact .inr (by omega)
   clear hu4 hfs k32 f32
   iterate 4 go_step
   refine wpList_load_row rfl 49 _ rfl q rfl 49 (icells {h with pos:=P} c d n0 (.slice A2 es.length cap2)).toArray (0,0) _ HB4.o Tryz.underlying49 rfl (jv9 (.node {h with pos:=P} c d n0 (.slice A2 es.length cap2) es)) ?_
   simp only [Act.put,List.setIfInBounds_toArray,List.set_cons_zero,List.set_cons_succ]
   refine wpList_builtS rfl 24 1 _ rfl #[(0,.agg (icells {h with pos:=P} c d n0 (.slice A2 es.length cap2)).toArray)] ?_ _ _ (bsl_lay HL4.o u4) ?_
   ·simp [Act.eval]
   simp only [Act.put,List.setIfInBounds_toArray,List.set_cons_zero,List.set_cons_succ]
   obtain ⟨y,hy⟩: ∃y,DT.node {h with pos:=P} c d n0 (.slice A2 es.length cap2) es=y:=⟨_,rfl⟩
   obtain ⟨u5,hu5⟩: ∃u,u4.alloc (.cells (DT.node {h with pos:=P} c d n0 (.slice A2 es.length cap2) es).cells.toArray 49)=u:=⟨_,rfl⟩
   obtain ⟨q5,HQ5⟩: ∃k,Hid (u4.heap.size=k):=⟨_,rfl⟩
   rw [hu5,HQ5.o]
   rw [hy] at HL4 HEQ hu5
   have HF5:Hid (Fr (fun _=>False) wr u5):=by rw [←hu5];exact HF4.o.alloc _
   have HL5:Hid (Lay (fun g=>g<W0∨wr.heap.size≤g) u5 y):=by rw [←hu5];exact HL4.o.fr ((Fr.refl (fun _=>False) u4).alloc _) (fun _ _ h=>h)
   have HB5:Hid (u5.heap[q5]?=some (.cells y.cells.toArray 49 (0,0))):=by rw [←hu5];exact jq2 HQ5.o.symm
   clear hu5 HL4 HB4 HF4
   obtain ⟨Ao,co,ho⟩:=own_form HS.o.own
   subst ho
   have HOW:Hid (u5.ownsRow W.heap.size 49 33 (.slice Ao j co) j (ds.flatMap DT.cells)):=jz2 HS.o.own HF5.o (fun _ _ _ h=>h)
   refine wpList_append_row rfl (.tmp 28) (.tmp 30) 24 rfl W.heap.size 49 j0 _ 33 368 Tryz.underlying24 HJ.o HJ0.o HJ1.o HJ2.o rfl (by decide) (.slice Ao j co) j _ rfl HOW.o (.slice (some ⟨q5,0,none⟩) 1 1) rfl DT.cells [y] (row_one HB5.o) (fun z _=>z.cells_len) (fun z hz=>by rcases List.mem_singleton.1 hz with rfl;exact all_one HL5.o.one) (by have h1:=HLN.o;have h2:=HLT.o;simp only [maxLen,List.length_singleton];omega) (by have h1:=HLN.o;have h2:=HLT.o;simp only [List.length_singleton];omega) (Nat.le_trans HS.o.fr.size HF5.o.size) ?_
   intro v1 w6 ho hg hob
   have HS6:Hid (ShL W W0 l (j+1) v1 (ds++ [y]) w6):=HS.o.next HX.o HF5.o HL5.o HEQ.o HW.o ho hg hob
   clear ho hg hob hy
   simp only [Act.put,List.setIfInBounds_toArray,List.set_cons_zero,List.set_cons_succ]
   go_wp2_with fail
   go_roundw
   case rel=>exact ⟨j+1,ds++ [y],by go_num,HLT.o,HS6⟩
   case measure=>have:=HLT.o;simp [intOf];omega
  ·obtain rfl:j=l.length:=by omega
   go_wp2_with fail
   go_ret
   exact HS.o.done
end Go.Proofs.YtfficindoecpfaaGreatDoor.Pt
