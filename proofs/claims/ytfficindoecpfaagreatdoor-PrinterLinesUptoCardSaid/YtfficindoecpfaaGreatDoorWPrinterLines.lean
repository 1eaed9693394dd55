/-
  PrinterLines: the walk of the statement.
-/
import Derived.Test.YtfficindoecpfaaGreatDoorPriAfter
import Derived.Test.YtfficindoecpfaaGreatDoorApp
import Derived.Test.YtfficindoecpfaaGreatDoorPriIts
import Derived.Laws.Concat
set_option maxHeartbeats 64000000
set_option maxRecDepth 100000
namespace Go.Proofs.YtfficindoecpfaaGreatDoor.Pt
open Go.RowKit Mem Vw
open Ic (RowB DT Lay LayL tsz info_it info_itl)
set_option linter.unusedVariables false
set_option linter.unusedSimpArgs false
theorem rowB_row {W:World} {v:Value} {z:Nat} {xs:List (List Value)} (h:Row W v z xs):RowB (fun q=>q<W.heap.size) W v z xs:=by
 refine ⟨h,?_⟩
 obtain ⟨A,cap,e,hc,h1⟩:=h
 intro g o n c e2 hx
 rcases h1 with h1|⟨g',o',hA,hg,_⟩
 ·exact absurd h1 hx
 ·rw [e] at e2;injection e2 with e3 _ _;rw [hA] at e3;injection e3 with e4;injection e4 with e5 _ _;subst e5
  exact hg
theorem bslice0 (w:World):(Instr.buildSlice 24 0 #[]).run Tryz.prog w= .ok (.slice (some ⟨w.heap.size,0,none⟩) 0 0) (w.alloc (.cells #[] 49)):=by kernel_rfl
theorem own_zero {w:World} {g:Nat} (h:w.heap[g]?=some (.cells #[] 49 (0,0))):w.ownsRow g 49 33 (.slice (some ⟨g,0,none⟩) 0 0) 0 []:=⟨rfl,.inr ⟨g,0,#[],rfl,Nat.le_refl _,h,Nat.le_refl _,by decide,rfl,rfl⟩⟩
theorem cat_q (x y:Rs.Bytes):(⟨x.toArray⟩:ByteArray)++⟨y.toArray⟩=⟨(x++y).toArray⟩:=by
 apply ByteArray.ext
 apply Array.toList_inj.1
 simp
theorem aft_len: ∀y:Rs.Bytes,(aft y).length≤y.length
 | []=>Nat.le_refl _
 |c::y=>by
  show (if c=10 then y else aft y).length≤y.length+1
  by_cases h:c=10
  ·rw [if_pos h];omega
  ·rw [if_neg h];have:=aft_len y;omega
theorem run_cat (a b:Rs.Bytes) (ha:a.length≤20000) (hb:b.length≤20000) (W:World):(Op.stringOp .add ⟨a.toArray⟩ ⟨b.toArray⟩).run Tryz.prog W= .ok (.string ⟨(a++b).toArray⟩) W:=by
 have h1:(⟨a.toArray⟩:ByteArray).size=a.length:=rfl
 have h2:(⟨b.toArray⟩:ByteArray).size=b.length:=rfl
 rw [←cat_q]
 exact run_string_add_sum W _ _ (by omega)
theorem lay_both {W w':World} {l r:List DT} {iv rv v:Value} (h1:ItsIn W l iv) (h2:ItsIn W r rv) (hf:Fr (fun _=>False) W w') {base:Nat} (ho:w'.ownsRow base 49 33 v (l.length+r.length) ([]++l.flatMap DT.cells++r.flatMap DT.cells)):
  LayL (fun g=>g<w'.heap.size) w' (l++r) v:=by
 have e: []++l.flatMap DT.cells++r.flatMap DT.cells=(l++r).flatMap DT.cells:=by rw [List.flatMap_append,List.nil_append]
 have e2:l.length+r.length=(l++r).length:=by rw [List.length_append]
 rw [e,e2] at ho
 refine ⟨rowB_row (Row.of_own ho (fun y _=>y.cells_len)),fun y hy=>?_⟩
 rcases List.mem_append.1 hy with hy|hy
 ·exact ((h1.fr hf).lay.lay y hy)
 ·exact ((h2.fr hf).lay.lay y hy)
theorem own_frb2 {S:Nat→Prop} {w w1:World} {base:Nat} {e:TypeId} {size:Nat} {v:Value} {n:Nat} {xs:List Value} (h:w.ownsRow base e size v n xs) (hf:Fr S w w1) (hs: ∀k,v.ownBlock=some k→ ¬S k):w1.ownsRow base e size v n xs:=by
 refine ⟨h.1,?_⟩
 rcases h.2 with h2|⟨g,cap,cur,hv,hg,hh,r⟩
 ·exact .inl h2
 ·exact .inr ⟨g,cap,cur,hv,hg,hf.blk hh (hs g (by rw [hv];rfl)),r⟩
theorem one_all {cs:List Value} (h:cs.toArray.all (·.oneCell')=true): ∀u∈cs,u.oneCell'=true:=by
 intro u hu
 have:=Array.all_eq_true'.1 h u (by simpa using hu)
 exact this
theorem both_fine {W:World} {l r:List DT} {iv rv:Value} (h1:ItsIn W l iv) (h2:ItsIn W r rv): ∀y∈l++r,Fine y∧ ∀z∈y.l,Fine z:=fun y hy=>by
 have hb:Bk y:=by
  rcases List.mem_append.1 hy with hy|hy
  ·exact h1.bk y hy
  ·exact h2.bk y hy
 exact ⟨hb.fine,fun z hz=>(hb.inner z hz).fine⟩
theorem both_cost {x y:Ic.Src} {l r:List DT} (h1:Light x l) (h2:Light y r):costS (l++r)+100≤lim:=by
 have e:costS (l++r)=costS l+costS r:=by unfold costS;rw [List.map_append,List.sum_append]
 have k1:=costS_light h1.sm
 have k2:=costS_light h2.sm
 have k3:=h1.size
 have k4:=h2.size
 rw [e]
 unfold lim
 omega
theorem walk_PrinterLines {W:World} {x:Ic.Src} {l r:List DT} {iv rv:Value} (hI:SrcIn W x l iv) (hR:ItsIn W r rv) (hE:Env W) (hK:Pr.Wks W) (h7:7≤W.heap.size):
  Calls Tryz.prog 7 #[.agg (Rs.scells x.name x.frm x.days iv).toArray,rv] W fun e w'=>e= .returned (.bool true)∧Fr (fun _=>False) W w':=by
 obtain ⟨A,cap,hiv,_,_⟩:=hI.lay.slice
 subst hiv
 obtain ⟨Ar,capr,hrv,_,_⟩:=hR.lay.slice
 subst hrv
 obtain ⟨w0,hw0⟩: ∃u,W.alloc (.cells (Rs.scells x.name x.frm x.days (.slice A l.length cap)).toArray 26)=u:=⟨_,rfl⟩
 obtain ⟨g,HGG⟩: ∃q,Hid (W.heap.size=q):=⟨_,rfl⟩
 have HF0:Hid (Fr (fun _=>False) W w0):=by rw [←hw0];exact (Fr.refl _ W).alloc _
 have HB0:Hid (w0.heap[g]?=some (.cells (Rs.scells x.name x.frm x.days (.slice A l.length cap)).toArray 26 (0,0))):=by rw [←hw0];exact blk_newn HGG.out.symm
 have HI:=hdd hI;have HR:=hdd hR;have HE:=hdd hE;have HK:=hdd hK;have H7:=hdd h7
 have HW0:=hdd hw0
 clear hw0 hI hR hE hK h7
 go_enter Tryz.func7,Tryz.ntmps7
 go_upto_region 1 with fail
 rw [HW0.out,HGG.out]
 clear HW0
 go_wp2_with fail
 refine (head_any w0 (HE.out.fr HF0.out (fun _ _ e=>e)) (Wks.fr HK.out HF0.out) (Nat.le_trans H7.out HF0.out.size)).mono ?_
 rintro e w1 ⟨rfl,hf⟩
 have HF1:Hid (Fr (fun _=>False) W w1):=HF0.out.trans hf
 have HBa1:Hid (w1.heap[g]?=some (.cells (Rs.scells x.name x.frm x.days (.slice A l.length cap)).toArray 26 (0,0))):=hf.blk HB0.out (fun e=>e)
 clear hf
 go_upto_region 2 with fail
 iterate 1 go_step
 refine wpList_load_row rfl 26 _ rfl g rfl 26 (Rs.scells x.name x.frm x.days (.slice A l.length cap)).toArray (0,0) _ HBa1.out Tryz.underlying26 rfl (info_src _ _ _ _) ?_
 simp only [Act.put,List.setIfInBounds_toArray,List.set_cons_zero,List.set_cons_succ]
 iterate 3 go_step
 refine wpList_store_row rfl 26 _ _ rfl w1.heap.size (Rs.scells x.name x.frm x.days (.slice A l.length cap)).toArray rfl rfl 26 _ (blk_newn rfl) (info_src _ _ _ _) rfl (one_src _ _ _ _ _ _) ?_
 simp only [Act.put,List.setIfInBounds_toArray,List.set_cons_zero,List.set_cons_succ]
 rw [World.setRow_alloc_new]
 obtain ⟨gb,HGB⟩: ∃q,Hid (w1.heap.size=q):=⟨_,rfl⟩
 obtain ⟨w2,hw2⟩: ∃u,w1.alloc (.cells (Rs.scells x.name x.frm x.days (.slice A l.length cap)).toArray 26)=u:=⟨_,rfl⟩
 rw [hw2,HGB.out]
 have hfa:Fr (fun _=>False) w1 w2:=by rw [←hw2];exact (Fr.refl _ w1).alloc _
 have HGW:Hid (W.heap.size<gb):=by show _<_;have h1:=lt_of_blk HBa1.out;have h2:=HGG.out;have h3:=HGB.out;omega
 have HF2:Hid (Fr (fun _=>False) W w2):=HF1.out.trans hfa
 have HBa2:Hid (w2.heap[g]?=some (.cells (Rs.scells x.name x.frm x.days (.slice A l.length cap)).toArray 26 (0,0))):=hfa.blk HBa1.out (fun e=>e)
 have HBz2:Hid (w2.heap[gb]?=some (.cells (Rs.scells x.name x.frm x.days (.slice A l.length cap)).toArray 26 (0,0))):=by rw [←hw2];exact blk_newn HGB.out.symm
 clear hw2 hfa
 have c5:w2.cell? ⟨gb,5,none⟩=some (.slice A l.length cap):=cell_of_blk HBz2.out 5
 have f5:w2.frozen? ⟨gb,5,none⟩=false:=froz_of_blk HBz2.out 5
 obtain ⟨w3,hw3⟩: ∃u,w2.setCell ⟨gb,5,none⟩ (.slice Ar r.length capr)=u:=⟨_,rfl⟩
 have hfs:Fr (fun q=>q=gb) w2 w3:=by rw [←hw3];exact (Fr.refl (fun q=>q=gb) w2).setb 5 _
 have HBb3:Hid (w3.heap[gb]?=some (.cells (Rs.scells x.name x.frm x.days (.slice Ar r.length capr)).toArray 26 (0,0))):=by rw [←hw3];exact blk_set HBz2.out 5 _
 have HBa3:Hid (w3.heap[g]?=some (.cells (Rs.scells x.name x.frm x.days (.slice A l.length cap)).toArray 26 (0,0))):=hfs.blk HBa2.out (fun e=>by have h1:=HGW.out;have h2:=HGG.out;have e:g=gb:=e;omega)
 have HF3:Hid (Fr (fun _=>False) W w3):=HF2.out.trans' hfs (fun i hi e=>by have h1:=HGW.out;have e:i=gb:=e;omega)
 clear hfs
 go_upto_region 4 with fail
 clear hw3 c5 f5
 iterate 1 go_step
 refine wpList_load_row rfl 26 _ rfl g rfl 26 (Rs.scells x.name x.frm x.days (.slice A l.length cap)).toArray (0,0) _ HBa3.out Tryz.underlying26 rfl (info_src _ _ _ _) ?_
 simp only [Act.put,List.setIfInBounds_toArray,List.set_cons_zero,List.set_cons_succ]
 go_wp2_with fail
 refine (light_in (HI.out.fr HF3.out)).mono ?_
 rintro e w4 ⟨b,rfl,hl,hf⟩
 have HF4:Hid (Fr (fun _=>False) W w4):=HF3.out.trans hf
 have HBa4:Hid (w4.heap[g]?=some (.cells (Rs.scells x.name x.frm x.days (.slice A l.length cap)).toArray 26 (0,0))):=hf.blk HBa3.out (fun e=>e)
 have HBb4:Hid (w4.heap[gb]?=some (.cells (Rs.scells x.name x.frm x.days (.slice Ar r.length capr)).toArray 26 (0,0))):=hf.blk HBb3.out (fun e=>e)
 clear hf
 cases b with
 |false=>
  clear hl
  go_wp2_with fail
  go_ret
  exact ⟨rfl,HF4.out⟩
 |true=>
 have HLA:Hid (Light x l):=hl rfl
 clear hl
 go_wp2_with (refine wpList_load_row_g (op:=⟨some 22,_,_,_,_,_⟩) ?hw 26 _ rfl gb rfl (Rs.scells x.name x.frm x.days (.slice Ar r.length capr)) _ _ HBb4.out Tryz.underlying26 rfl (info_src _ _ _ _) ?_;(case hw=>rfl))
 refine (light_in ((HR.out.fr HF4.out).src x HI.out.name)).mono ?_
 rintro e w5 ⟨b,rfl,hl,hf⟩
 have HF5:Hid (Fr (fun _=>False) W w5):=HF4.out.trans hf
 have HBa5:Hid (w5.heap[g]?=some (.cells (Rs.scells x.name x.frm x.days (.slice A l.length cap)).toArray 26 (0,0))):=hf.blk HBa4.out (fun e=>e)
 have HBb5:Hid (w5.heap[gb]?=some (.cells (Rs.scells x.name x.frm x.days (.slice Ar r.length capr)).toArray 26 (0,0))):=hf.blk HBb4.out (fun e=>e)
 clear hf
 cases b with
 |false=>
  clear hl
  go_wp2_with fail
  go_ret
  exact ⟨rfl,HF5.out⟩
 |true=>
 have HLB:Hid (Light {x with items:=r.map DT.tree} r):=hl rfl
 clear hl
 go_upto_region 6 with fail
 iterate 1 go_step
 refine wpList_load_row rfl 26 _ rfl g rfl 26 (Rs.scells x.name x.frm x.days (.slice A l.length cap)).toArray (0,0) _ HBa5.out Tryz.underlying26 rfl (info_src _ _ _ _) ?_
 simp only [Act.put,List.setIfInBounds_toArray,List.set_cons_zero,List.set_cons_succ]
 iterate 3 go_step
 refine wpList_store_row rfl 26 _ _ rfl w5.heap.size (Rs.scells x.name x.frm x.days (.slice A l.length cap)).toArray rfl rfl 26 _ (blk_newn rfl) (info_src _ _ _ _) rfl (one_src _ _ _ _ _ _) ?_
 simp only [Act.put,List.setIfInBounds_toArray,List.set_cons_zero,List.set_cons_succ]
 rw [World.setRow_alloc_new]
 obtain ⟨gc,HGC⟩: ∃q,Hid (w5.heap.size=q):=⟨_,rfl⟩
 obtain ⟨w6,hw6⟩: ∃u,w5.alloc (.cells (Rs.scells x.name x.frm x.days (.slice A l.length cap)).toArray 26)=u:=⟨_,rfl⟩
 rw [hw6,HGC.out]
 have hfa:Fr (fun _=>False) w5 w6:=by rw [←hw6];exact (Fr.refl _ w5).alloc _
 have HGV:Hid (gb<gc):=by show _<_;have h1:=lt_of_blk HBb5.out;have h3:=HGC.out;omega
 have HF6:Hid (Fr (fun _=>False) W w6):=HF5.out.trans hfa
 have HBz6:Hid (w6.heap[gc]?=some (.cells (Rs.scells x.name x.frm x.days (.slice A l.length cap)).toArray 26 (0,0))):=by rw [←hw6];exact blk_newn HGC.out.symm
 have HBa6:Hid (w6.heap[g]?=some (.cells (Rs.scells x.name x.frm x.days (.slice A l.length cap)).toArray 26 (0,0))):=hfa.blk HBa5.out (fun e=>e)
 have HBb6:Hid (w6.heap[gb]?=some (.cells (Rs.scells x.name x.frm x.days (.slice Ar r.length capr)).toArray 26 (0,0))):=hfa.blk HBb5.out (fun e=>e)
 clear hw6 hfa
 have c5:w6.cell? ⟨g,5,none⟩=some (.slice A l.length cap):=cell_of_blk HBa6.out 5
 go_upto_region 7 with fail
 clear c5
 have HLL:Hid (l.length≤700∧r.length≤700):=⟨Nat.le_trans (len_tsz l) HLA.out.size,Nat.le_trans (len_tsz r) HLB.out.size⟩
 obtain ⟨j0,hj,hj0,hj1,hj2⟩:=info_parts (show (Tryz.prog.info? 49).map (fun i=>(i.zero,i.size,i.bytes))=some (some (.agg (Rs.icells (rsi Pr.flat0) Vw.nil Vw.nil Vw.nil Vw.nil).toArray),33,368) by kernel_rfl)
 iterate 1 go_step
 refine wpList_builtS rfl 24 0 _ rfl #[] ?_ _ _ (bslice0 w6) ?_
 ·simp
 simp only [Act.put,List.setIfInBounds_toArray,List.set_cons_zero,List.set_cons_succ]
 obtain ⟨gz,HGZ⟩: ∃q,Hid (w6.heap.size=q):=⟨_,rfl⟩
 obtain ⟨w7,hw7⟩: ∃u,w6.alloc (.cells #[] 49)=u:=⟨_,rfl⟩
 rw [hw7,HGZ.out]
 have hfa:Fr (fun _=>False) w6 w7:=by rw [←hw7];exact (Fr.refl _ w6).alloc _
 have HCZ:Hid (gc<gz):=by show _<_;have h1:=lt_of_blk HBz6.out;have h3:=HGZ.out;omega
 have HF7:Hid (Fr (fun _=>False) W w7):=HF6.out.trans hfa
 have HO7:Hid (w7.ownsRow gz 49 33 (.slice (some ⟨gz,0,none⟩) 0 0) 0 []):=own_zero (by rw [←hw7];exact blk_newn HGZ.out.symm)
 have HBz7:Hid (w7.heap[gc]?=some (.cells (Rs.scells x.name x.frm x.days (.slice A l.length cap)).toArray 26 (0,0))):=hfa.blk HBz6.out (fun e=>e)
 have HBa7:Hid (w7.heap[g]?=some (.cells (Rs.scells x.name x.frm x.days (.slice A l.length cap)).toArray 26 (0,0))):=hfa.blk HBa6.out (fun e=>e)
 have HBb7:Hid (w7.heap[gb]?=some (.cells (Rs.scells x.name x.frm x.days (.slice Ar r.length capr)).toArray 26 (0,0))):=hfa.blk HBb6.out (fun e=>e)
 clear hw7 hfa
 have c5:w7.cell? ⟨g,5,none⟩=some (.slice A l.length cap):=cell_of_blk HBa7.out 5
 iterate 6 go_step
 have HIL:Hid (LayL (fun q=>q<w7.heap.size) w7 l (.slice A l.length cap)):=(HI.out.fr HF7.out).lay
 have HIR:Hid (LayL (fun q=>q<w7.heap.size) w7 r (.slice Ar r.length capr)):=(HR.out.fr HF7.out).lay
 refine wpList_append_row rfl (.tmp 28) (.tmp 30) 24 rfl gz 49 j0 _ 33 368 Tryz.underlying24 hj hj0 hj1 hj2 rfl (by decide) (.slice (some ⟨gz,0,none⟩) 0 0) 0 [] rfl HO7.out (.slice A l.length cap) rfl DT.cells l HIL.out.row.1 (fun y _=>y.cells_len) (fun y hy=>one_all (HIL.out.lay y hy).one) (by have:=HLL.out.1;simp only [maxLen];omega) (by have:=HLL.out.1;omega) (Nat.le_of_lt (own_lt HO7.out gz rfl).2) ?_
 intro v1 w8 ho hg hob
 have hf8:Fr (fun q=>gz≤q) w7 w8:=(Fr.refl _ w7).grown hg (fun k hk=> .inl (by have:=own_lt HO7.out k hk;omega))
 have HO8:=hdd ho
 have HF8:Hid (Fr (fun _=>False) W w8):=HF7.out.trans' hf8 (fun i hi e=>by have h1:=HGW.out;have h2:=HGV.out;have h3:=HCZ.out;have e:gz≤i:=e;omega)
 have HBz8:Hid (w8.heap[gc]?=some (.cells (Rs.scells x.name x.frm x.days (.slice A l.length cap)).toArray 26 (0,0))):=hf8.blk HBz7.out (fun e=>by have h3:=HCZ.out;have e:gz≤gc:=e;omega)
 have HBa8:Hid (w8.heap[g]?=some (.cells (Rs.scells x.name x.frm x.days (.slice A l.length cap)).toArray 26 (0,0))):=hf8.blk HBa7.out (fun e=>by have h1:=HGW.out;have h2:=HGV.out;have h3:=HCZ.out;have h4:=HGG.out;have e:gz≤g:=e;omega)
 have HBb8:Hid (w8.heap[gb]?=some (.cells (Rs.scells x.name x.frm x.days (.slice Ar r.length capr)).toArray 26 (0,0))):=hf8.blk HBb7.out (fun e=>by have h2:=HGV.out;have h3:=HCZ.out;have e:gz≤gb:=e;omega)
 have HZ8:Hid (gz≤w8.heap.size):=by show _≤_;have h1:=(own_lt HO7.out gz rfl).2;have h2:=hf8.size;omega
 have HIR8:Hid (LayL (fun q=>q<w8.heap.size) w8 r (.slice Ar r.length capr)):=(HR.out.fr HF8.out).lay
 clear ho hg hob hf8 c5
 simp only [Act.put,List.setIfInBounds_toArray,List.set_cons_zero,List.set_cons_succ]
 iterate 3 go_step
 refine wpList_append_row rfl (.tmp 31) (.tmp 32) 24 rfl gz 49 j0 _ 33 368 Tryz.underlying24 hj hj0 hj1 hj2 rfl (by decide) v1 (0+l.length) _ rfl HO8.out (.slice Ar r.length capr) rfl DT.cells r HIR8.out.row.1 (fun y _=>y.cells_len) (fun y hy=>one_all (HIR8.out.lay y hy).one) (by have:=HLL.out;simp only [maxLen];omega) (by have:=HLL.out;omega) HZ8.out ?_
 intro v2 w9 ho hg hob
 rw [show 0+l.length+r.length=l.length+r.length from by omega] at ho
 obtain ⟨Ac,capc,hv2⟩:=own_form ho
 subst hv2
 have hf9:Fr (fun q=>gz≤q) w8 w9:=(Fr.refl _ w8).grown hg (fun k hk=> .inl (own_lt HO8.out k hk).1)
 have HO9:=hdd ho
 have HF9:Hid (Fr (fun _=>False) W w9):=HF8.out.trans' hf9 (fun i hi e=>by have h1:=HGW.out;have h2:=HGV.out;have h3:=HCZ.out;have e:gz≤i:=e;omega)
 have HBz9:Hid (w9.heap[gc]?=some (.cells (Rs.scells x.name x.frm x.days (.slice A l.length cap)).toArray 26 (0,0))):=hf9.blk HBz8.out (fun e=>by have h3:=HCZ.out;have e:gz≤gc:=e;omega)
 have HBa9:Hid (w9.heap[g]?=some (.cells (Rs.scells x.name x.frm x.days (.slice A l.length cap)).toArray 26 (0,0))):=hf9.blk HBa8.out (fun e=>by have h1:=HGW.out;have h2:=HGV.out;have h3:=HCZ.out;have h4:=HGG.out;have e:gz≤g:=e;omega)
 have HBb9:Hid (w9.heap[gb]?=some (.cells (Rs.scells x.name x.frm x.days (.slice Ar r.length capr)).toArray 26 (0,0))):=hf9.blk HBb8.out (fun e=>by have h2:=HGV.out;have h3:=HCZ.out;have e:gz≤gb:=e;omega)
 clear ho hg hob hf9
 simp only [Act.put,List.setIfInBounds_toArray,List.set_cons_zero,List.set_cons_succ]
 have c5:w9.cell? ⟨gc,5,none⟩=some (.slice A l.length cap):=cell_of_blk HBz9.out 5
 have f5:w9.frozen? ⟨gc,5,none⟩=false:=froz_of_blk HBz9.out 5
 obtain ⟨w10,hw10⟩: ∃u,w9.setCell ⟨gc,5,none⟩ (.slice Ac (l.length+r.length) capc)=u:=⟨_,rfl⟩
 have hfs:Fr (fun q=>q=gc) w9 w10:=by rw [←hw10];exact (Fr.refl (fun q=>q=gc) w9).setb 5 _
 have HBc10:Hid (w10.heap[gc]?=some (.cells (Rs.scells x.name x.frm x.days (.slice Ac (l.length+r.length) capc)).toArray 26 (0,0))):=by rw [←hw10];exact blk_set HBz9.out 5 _
 have HBa10:Hid (w10.heap[g]?=some (.cells (Rs.scells x.name x.frm x.days (.slice A l.length cap)).toArray 26 (0,0))):=hfs.blk HBa9.out (fun e=>by have h1:=HGW.out;have h2:=HGV.out;have h4:=HGG.out;have e:g=gc:=e;omega)
 have HBb10:Hid (w10.heap[gb]?=some (.cells (Rs.scells x.name x.frm x.days (.slice Ar r.length capr)).toArray 26 (0,0))):=hfs.blk HBb9.out (fun e=>by have h2:=HGV.out;have e:gb=gc:=e;omega)
 have HF10:Hid (Fr (fun _=>False) W w10):=HF9.out.trans' hfs (fun i hi e=>by have h1:=HGW.out;have h2:=HGV.out;have e:i=gc:=e;omega)
 have HO10:Hid (w10.ownsRow gz 49 33 (.slice Ac (l.length+r.length) capc) (l.length+r.length) ([]++l.flatMap DT.cells++r.flatMap DT.cells)):=own_frb2 HO9.out hfs (fun k hk e=>by have h1:=(own_lt HO9.out k hk).1;have h2:=HCZ.out;have e:k=gc:=e;omega)
 have HLC:Hid (LayL (fun q=>q<w10.heap.size) w10 (l++r) (.slice Ac (l.length+r.length) capc)):=lay_both HI.out.its HR.out HF10.out HO10.out
 clear hfs
 go_upto_region 8 with fail
 clear hw10 c5 f5 hj hj0 hj1 hj2
 iterate 1 go_step
 refine wpList_load_row rfl 26 _ rfl g rfl 26 (Rs.scells x.name x.frm x.days (.slice A l.length cap)).toArray (0,0) _ HBa10.out Tryz.underlying26 rfl (info_src _ _ _ _) ?_
 simp only [Act.put,List.setIfInBounds_toArray,List.set_cons_zero,List.set_cons_succ]
 go_wp2_with fail
 refine (print_in (HI.out.fr HF10.out) HLA.out (HE.out.fr HF10.out (fun _ _ e=>e)) (Nat.le_trans H7.out HF10.out.size)).mono ?_
 rintro e w11 ⟨rfl,hf⟩
 have HF11:Hid (Fr (fun _=>False) W w11):=HF10.out.trans hf
 have HLC11:Hid (LayL (fun q=>q<w11.heap.size) w11 (l++r) (.slice Ac (l.length+r.length) capc)):=(HLC.out.fr hf (fun _ _ e=>e)).mono (fun q hq _=>hq)
 have HBb11:Hid (w11.heap[gb]?=some (.cells (Rs.scells x.name x.frm x.days (.slice Ar r.length capr)).toArray 26 (0,0))):=hf.blk HBb10.out (fun e=>e)
 have HBc11:Hid (w11.heap[gc]?=some (.cells (Rs.scells x.name x.frm x.days (.slice Ac (l.length+r.length) capc)).toArray 26 (0,0))):=hf.blk HBc10.out (fun e=>e)
 clear hf
 go_upto_region 9 with fail
 iterate 1 go_step
 refine wpList_load_row rfl 26 _ rfl gb rfl 26 (Rs.scells x.name x.frm x.days (.slice Ar r.length capr)).toArray (0,0) _ HBb11.out Tryz.underlying26 rfl (info_src _ _ _ _) ?_
 simp only [Act.put,List.setIfInBounds_toArray,List.set_cons_zero,List.set_cons_succ]
 go_wp2_with fail
 refine (print_in ((HR.out.fr HF11.out).src x HI.out.name) HLB.out (HE.out.fr HF11.out (fun _ _ e=>e)) (Nat.le_trans H7.out HF11.out.size)).mono ?_
 rintro e w12 ⟨rfl,hf⟩
 have HF12:Hid (Fr (fun _=>False) W w12):=HF11.out.trans hf
 have HLC12:Hid (LayL (fun q=>q<w12.heap.size) w12 (l++r) (.slice Ac (l.length+r.length) capc)):=(HLC11.out.fr hf (fun _ _ e=>e)).mono (fun q hq _=>hq)
 have HBc12:Hid (w12.heap[gc]?=some (.cells (Rs.scells x.name x.frm x.days (.slice Ac (l.length+r.length) capc)).toArray 26 (0,0))):=hf.blk HBc11.out (fun e=>e)
 clear hf
 go_upto_region 10 with fail
 iterate 1 go_step
 refine wpList_load_row rfl 26 _ rfl gc rfl 26 (Rs.scells x.name x.frm x.days (.slice Ac (l.length+r.length) capc)).toArray (0,0) _ HBc12.out Tryz.underlying26 rfl (info_src _ _ _ _) ?_
 simp only [Act.put,List.setIfInBounds_toArray,List.set_cons_zero,List.set_cons_succ]
 go_wp2_with fail
 refine (print_any (x:= {x with items:=x.items++r.map DT.tree}) (l:=l++r) (HE.out.fr HF12.out (fun _ _ e=>e)) (Nat.le_trans H7.out HF12.out.size) HLC12.out (fun y hy=>both_fine HI.out.its HR.out y hy) (by have:=HI.out.name;show x.name.length≤_;omega) (both_cost HLA.out HLB.out)).mono ?_
 rintro e w13 ⟨rfl,hf⟩
 rw [printR_eq {x with items:=x.items++r.map DT.tree} (l++r) (by rw [List.map_append,HI.out.tr])]
 have HF13:Hid (Fr (fun _=>False) W w13):=HF12.out.trans hf
 clear hf
 have HLN:=hdd (lines_ok x (r.map DT.tree))
 unfold printed
 obtain ⟨p1,hp1⟩: ∃p,print x=p:=⟨_,rfl⟩
 obtain ⟨p2,hp2⟩: ∃p,print {x with items:=r.map DT.tree}=p:=⟨_,rfl⟩
 obtain ⟨p3,hp3⟩: ∃p,print {x with items:=x.items++r.map DT.tree}=p:=⟨_,rfl⟩
 rw [hp1,hp2,hp3]
 rw [hp1,hp2,hp3] at HLN
 have HE1:Hid (∀e,p1= .error e→e=1∨e=3):=fun e h=>print_err (hp1.trans h)
 have HE2:Hid (∀e,p2= .error e→e=1∨e=3):=fun e h=>print_err (hp2.trans h)
 have HL1:Hid (∀F,p1= .ok F→F.length≤20000):=fun F h=>by obtain ⟨_,_,_,_,_,h⟩:=print_some (hp1.trans h);exact h
 have HL2:Hid (∀F,p2= .ok F→F.length≤20000):=fun F h=>by obtain ⟨_,_,_,_,_,h⟩:=print_some (hp2.trans h);exact h
 clear hp1 hp2 hp3
 cases p1 with
 |error e1=>
  by_cases he1:e1=1
  ·subst he1
   obtain rfl:p3= .error 1:=HLN.out.arg (.inl rfl)
   clear HLN HE1 HE2 HL1 HL2
   cases p2 with
   |error e2=>
    go_wp2_with fail
    go_ret
    exact ⟨rfl,HF13.out⟩
   |ok F2=>
    go_wp2_with fail
    go_ret
    exact ⟨rfl,HF13.out⟩
  obtain rfl:e1=3:=by
   rcases HE1.out _ rfl with h|h
   ·exact absurd h he1
   ·exact h
  cases p2 with
  |error e2=>
   by_cases he2:e2=1
   ·subst he2
    obtain rfl:p3= .error 1:=HLN.out.arg (.inr rfl)
    clear HLN HE1 HE2 HL1 HL2 he1
    go_wp2_with fail
    go_ret
    exact ⟨rfl,HF13.out⟩
   obtain rfl:e2=3:=by
    rcases HE2.out _ rfl with h|h
    ·exact absurd h he2
    ·exact h
   obtain rfl:p3= .error 3:=HLN.out.lim (fun h=>by rcases h with h|h<;>cases h) (fun x y z h=>by cases h.1)
   clear HLN HE1 HE2 HL1 HL2 he1 he2
   go_wp2_with fail
   go_ret
   exact ⟨rfl,HF13.out⟩
  |ok F2=>
   obtain rfl:p3= .error 3:=HLN.out.lim (fun h=>by rcases h with h|h<;>cases h) (fun x y z h=>by cases h.1)
   clear HLN HE1 HE2 HL1 HL2 he1
   go_wp2_with fail
   go_ret
   exact ⟨rfl,HF13.out⟩
 |ok F1=>
  cases p2 with
  |error e2=>
   by_cases he2:e2=1
   ·subst he2
    obtain rfl:p3= .error 1:=HLN.out.arg (.inr rfl)
    clear HLN HE1 HE2 HL1 HL2
    go_wp2_with fail
    go_ret
    exact ⟨rfl,HF13.out⟩
   obtain rfl:e2=3:=by
    rcases HE2.out _ rfl with h|h
    ·exact absurd h he2
    ·exact h
   obtain rfl:p3= .error 3:=HLN.out.lim (fun h=>by rcases h with h|h<;>cases h) (fun x y z h=>by cases h.2.1)
   clear HLN HE1 HE2 HL1 HL2 he2
   go_wp2_with fail
   go_ret
   exact ⟨rfl,HF13.out⟩
  |ok F2=>
   cases p3 with
   |error e3=>
    obtain rfl:e3=3:=by
     have h:=HLN.out.lim (fun h=>by rcases h with h|h<;>cases h) (fun x y z h=>by cases h.2.2)
     injection h
    clear HLN HE1 HE2 HL1 HL2
    go_wp2_with fail
    go_ret
    exact ⟨rfl,HF13.out⟩
   |ok F3=>
    obtain rfl:F3=F1++aft F2:=HLN.out.ok _ _ _ rfl rfl rfl
    have HAF:=hdd (after_any F2 (HL2.out _ rfl) w13)
    have hcq:=run_cat F1 (aft F2) (HL1.out _ rfl) (Nat.le_trans (aft_len F2) (HL2.out _ rfl))
    clear HLN HE1 HE2 HL1 HL2
    go_wp2_with fail
    refine HAF.out.mono ?_
    rintro e w14 ⟨rfl,rfl⟩
    go_wp2_with fail
    go_ret
    exact ⟨rfl,HF13.out⟩
end Go.Proofs.YtfficindoecpfaaGreatDoor.Pt
