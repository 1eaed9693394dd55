/-
  PrinterInverse: the walk of the statement.
-/
import Derived.Test.YtfficindoecpfaaGreatDoorPkPriF
import Derived.Test.YtfficindoecpfaaGreatDoorPriSame
set_option maxHeartbeats 64000000
set_option maxRecDepth 100000
namespace Go.Proofs.YtfficindoecpfaaGreatDoor.Pt
open Go.RowKit Mem Vw
open Ic (RowB DT Lay LayL tsz)
set_option linter.unusedVariables false
set_option linter.unusedSimpArgs false
theorem EqH.symm {x y:Rs.Item} (h:EqH x y):EqH y x:=by
 unfold EqH at h ⊢
 cases x
 cases y
 simp only [Rs.Item.mk.injEq] at h ⊢
 simp [h]
theorem Al2.at {α β:Type} {R:α→β→Prop}: ∀ {l:List α} {l':List β},Al2 R l l'→l'.length=l.length∧ ∀(j:Nat) (x:α) (y:β),l[j]?=some x→l'[j]?=some y→R x y
 | [],[],_=>⟨rfl,fun j x y h=>by simp at h⟩
 |a::l,b::l',h=>⟨by rw [List.length_cons,List.length_cons,h.2.at.1],fun j x y hx hy=>by
   cases j with
   |zero=>simp at hx hy;subst hx hy;exact h.1
   |succ j=>simp at hx hy;exact h.2.at.2 j x y hx hy⟩
theorem say_nil (va vb:Value) (Ba Bb:Nat→Prop):Say [] [] va vb Ba Bb:=items_say [] [] va vb Ba Bb rfl (fun j x y h=>by simp at h)
theorem say_inner {a b:List DT} (h:Al2 EqI (b.map DT.tree) (a.map DT.tree)) (va vb:Value) (Ba Bb:Nat→Prop):Say a b va vb Ba Bb:=by
 obtain ⟨h1,h2⟩:=h.at
 rw [List.length_map,List.length_map] at h1
 refine items_say a b va vb Ba Bb h1.symm (fun j x y hx hy=>?_)
 obtain ⟨h3,h4,h5⟩:=h2 j y.tree x.tree (by rw [List.getElem?_map,hy];rfl) (by rw [List.getElem?_map,hx];rfl)
 rw [DT.tree_h,DT.tree_h] at h3
 rw [DT.tree_l,List.map_eq_nil_iff] at h4 h5
 rw [h4,h5]
 exact ⟨h3.symm,say_nil _ _ _ _⟩
theorem say_trees {a b:List DT} (h:Al2 EqT (b.map DT.tree) (a.map DT.tree)) (va vb:Value) (Ba Bb:Nat→Prop):Say a b va vb Ba Bb:=by
 obtain ⟨h1,h2⟩:=h.at
 rw [List.length_map,List.length_map] at h1
 refine items_say a b va vb Ba Bb h1.symm (fun j x y hx hy=>?_)
 obtain ⟨h3,h4⟩:=h2 j y.tree x.tree (by rw [List.getElem?_map,hy];rfl) (by rw [List.getElem?_map,hx];rfl)
 rw [DT.tree_h,DT.tree_h] at h3
 rw [DT.tree_l,DT.tree_l] at h4
 exact ⟨h3.symm,say_inner h4 _ _ _ _⟩
theorem h7_in {W:World} {x:Ic.Src} {l:List DT} {iv:Value} (hI:SrcIn W x l iv): ∀t∈x.items,H7 t:=fun t ht=>by
 rw [←hI.tr] at ht
 obtain ⟨y,hy,rfl⟩:=List.mem_map.1 ht
 have hb:=hI.bk y hy
 refine ⟨by rw [DT.tree_h];exact hb.fine.days,fun z hz=>?_⟩
 rw [DT.tree_l] at hz
 obtain ⟨u,hu,rfl⟩:=List.mem_map.1 hz
 rw [DT.tree_h]
 exact (hb.inner u hu).fine.days
theorem bs_text (F:Rs.Bytes):Lx.bs ⟨F.toArray⟩=F:=by simp [Lx.bs]
theorem walk_PrinterInverse {W:World} {x:Ic.Src} {l:List DT} {iv:Value} (hI:SrcIn W x l iv) (hE:Env W) (hK:Pr.Wks W) (h7:7≤W.heap.size):
  Calls Tryz.prog 4 #[.agg (Rs.scells x.name x.frm x.days iv).toArray] W fun e w'=>e= .returned (.bool true)∧Fr (fun _=>False) W w':=by
 obtain ⟨A,cap,hiv,_,_⟩:=hI.lay.slice
 subst hiv
 obtain ⟨w0,hw0⟩: ∃u,W.alloc (.cells (Rs.scells x.name x.frm x.days (.slice A l.length cap)).toArray 26)=u:=⟨_,rfl⟩
 obtain ⟨g,HGG⟩: ∃q,Hid (W.heap.size=q):=⟨_,rfl⟩
 have HF0:Hid (Fr (fun _=>False) W w0):=by rw [←hw0];exact (Fr.refl _ W).alloc _
 have HB0:Hid (w0.heap[g]?=some (.cells (Rs.scells x.name x.frm x.days (.slice A l.length cap)).toArray 26 (0,0))):=by rw [←hw0];exact jq3 HGG.o.symm
 have HI:=hdd hI;have HE:=hdd hE;have HK:=hdd hK;have H7:=hdd h7
 have HW0:=hdd hw0
 clear hw0 hI hE hK h7
 go_enter Tryz.func4,Tryz.ntmps4
 go_upto_region 1 with fail
 rw [HW0.o,HGG.o]
 clear HW0
 go_wp2_with fail
 refine (head_any w0 (HE.o.fr HF0.o (fun _ _ e=>e)) (Wks.fr HK.o HF0.o) (Nat.le_trans H7.o HF0.o.size)).mono ?_
 rintro e w1 ⟨rfl,hf⟩
 have HF1:Hid (Fr (fun _=>False) W w1):=HF0.o.trans hf
 have HB1:Hid (w1.heap[g]?=some (.cells (Rs.scells x.name x.frm x.days (.slice A l.length cap)).toArray 26 (0,0))):=hf.blk HB0.o (fun e=>e)
 clear hf
 go_upto_region 2 with fail
 iterate 1 go_step
 refine wpList_load_row rfl 26 _ rfl g rfl 26 (Rs.scells x.name x.frm x.days (.slice A l.length cap)).toArray (0,0) _ HB1.o Tryz.underlying26 rfl (info_src _ _ _ _) ?_
 simp only [Act.put,List.setIfInBounds_toArray,List.set_cons_zero,List.set_cons_succ]
 go_wp2_with fail
 refine (light_in (HI.o.fr HF1.o)).mono ?_
 rintro e w2 ⟨b,rfl,hl,hf⟩
 have HF2:Hid (Fr (fun _=>False) W w2):=HF1.o.trans hf
 have HB2:Hid (w2.heap[g]?=some (.cells (Rs.scells x.name x.frm x.days (.slice A l.length cap)).toArray 26 (0,0))):=hf.blk HB1.o (fun e=>e)
 clear hf
 cases b with
 |false=>
  clear hl
  go_wp2_with fail
  go_ret
  exact ⟨rfl,HF2.o⟩
 |true=>
 have HLI:Hid (Light x l):=hl rfl
 clear hl
 go_upto_region 4 with fail
 iterate 1 go_step
 refine wpList_load_row rfl 26 _ rfl g rfl 26 (Rs.scells x.name x.frm x.days (.slice A l.length cap)).toArray (0,0) _ HB2.o Tryz.underlying26 rfl (info_src _ _ _ _) ?_
 simp only [Act.put,List.setIfInBounds_toArray,List.set_cons_zero,List.set_cons_succ]
 go_wp2_with fail
 refine (print_in (HI.o.fr HF2.o) HLI.o (HE.o.fr HF2.o (fun _ _ e=>e)) (Nat.le_trans H7.o HF2.o.size)).mono ?_
 rintro e w3 ⟨rfl,hf⟩
 have HF3:Hid (Fr (fun _=>False) W w3):=HF2.o.trans hf
 have HB3:Hid (w3.heap[g]?=some (.cells (Rs.scells x.name x.frm x.days (.slice A l.length cap)).toArray 26 (0,0))):=hf.blk HB2.o (fun e=>e)
 clear hf
 cases hp:print x with
 |error er=>
  have hpr:printed x=([],er):=by unfold printed;rw [hp]
  rw [hpr]
  rcases print_err hp with he|he
  ·subst he
   clear hp hpr
   go_wp2_with fail
   go_ret
   exact ⟨rfl,HF3.o⟩
  ·subst he
   clear hp hpr
   go_wp2_with fail
   go_ret
   exact ⟨rfl,HF3.o⟩
 |ok F=>
 have hpr:printed x=(F,0):=by unfold printed;rw [hp]
 rw [hpr]
 have hF:F.length≤20000:=by obtain ⟨_,_,_,_,_,h⟩:=print_some hp;exact h
 have hsz:(⟨F.toArray⟩:ByteArray).size≤9223372036854775807:=by show F.length≤_;omega
 have HSZ:=hdd hsz
 obtain ⟨S,hS,hEq⟩:=parse_print hp (h7_in HI.o)
 have HPS:Hid (Pr.parse (Lx.bs ⟨F.toArray⟩)= .ok S):=by show Pr.parse (Lx.bs ⟨F.toArray⟩)=_;rw [bs_text];exact hS
 have HEQ:=hdd hEq
 clear hp hpr hF hsz hS hEq
 go_wp2_with fail
 refine (Pr.parse_okv _ _ HSZ.o (Wks.fr HK.o HF3.o) S HPS.o).mono ?_
 rintro e w4 ⟨⟨si,rfl,hv⟩,hb⟩
 obtain ⟨ds,htr,hlay⟩:=lay_of hv
 obtain ⟨A2,cap2,hsi,_,_⟩:=hlay.slice
 subst hsi
 have HTR:Hid (Al2 EqT (l.map DT.tree) (ds.map DT.tree)):=by
  show Al2 EqT (l.map DT.tree) (ds.map DT.tree)
  rw [htr,HI.o.tr]
  exact HEQ.o.items
 have HL4:=hdd hlay
 have hf:Fr (fun _=>False) w3 w4:=Fr.of_below hb
 have HF4:Hid (Fr (fun _=>False) W w4):=HF3.o.trans hf
 have HB4:Hid (w4.heap[g]?=some (.cells (Rs.scells x.name x.frm x.days (.slice A l.length cap)).toArray 26 (0,0))):=hf.blk HB3.o (fun e=>e)
 have ec:(Pr.srcells S.name S.frm S.days (.slice A2 ds.length cap2)).toArray=(Rs.scells x.name x.frm x.days (.slice A2 ds.length cap2)).toArray:=by
  rw [←srcells_rss,HEQ.o.name,HEQ.o.frm,HEQ.o.days]
 rw [ec]
 clear hv hb htr hlay hf ec
 go_upto_region 8 with (refine wpList_store_row rfl 26 _ _ rfl w4.heap.size (Rs.scells x.name x.frm x.days (.slice A2 ds.length cap2)).toArray rfl rfl 26 _ (jq3 rfl) (info_src _ _ _ _) rfl (one_src _ _ _ _ _ _) ?_;rw [World.setRow_alloc_new])
 obtain ⟨g2,HG2⟩: ∃q,Hid (w4.heap.size=q):=⟨_,rfl⟩
 obtain ⟨w5,hw5⟩: ∃u,w4.alloc (.cells (Rs.scells x.name x.frm x.days (.slice A2 ds.length cap2)).toArray 26)=u:=⟨_,rfl⟩
 rw [hw5,HG2.o]
 have hfa:Fr (fun _=>False) w4 w5:=by rw [←hw5];exact (Fr.refl _ w4).alloc _
 have HC5:Hid (w5.heap[g2]?=some (.cells (Rs.scells x.name x.frm x.days (.slice A2 ds.length cap2)).toArray 26 (0,0))):=by rw [←hw5];exact jq3 HG2.o.symm
 have HB5:Hid (w5.heap[g]?=some (.cells (Rs.scells x.name x.frm x.days (.slice A l.length cap)).toArray 26 (0,0))):=hfa.blk HB4.o (fun e=>e)
 have HL5:Hid (LayL (fun q=>q<w5.heap.size) w5 ds (.slice A2 ds.length cap2)):=(HL4.o.fr hfa (fun _ _ e=>e)).mono (fun q hq _=>hq)
 have HF5:Hid (Fr (fun _=>False) W w5):=HF4.o.trans hfa
 clear hw5 hfa
 go_wp2_with (first|(refine kx1 (op:=⟨some 50,_,_,_,_,_⟩) ?hw 26 _ rfl g2 rfl (Rs.scells x.name x.frm x.days (.slice A2 ds.length cap2)) _ _ HC5.o Tryz.underlying26 rfl (info_src _ _ _ _) ?_;(case hw=>rfl))|(refine kx1 (op:=⟨some 51,_,_,_,_,_⟩) ?hw 26 _ rfl g rfl (Rs.scells x.name x.frm x.days (.slice A l.length cap)) _ _ HB5.o Tryz.underlying26 rfl (info_src _ _ _ _) ?_;(case hw=>rfl)))
 refine (same_true x ds l (.slice A2 ds.length cap2) (.slice A l.length cap) w5 (fun q=>q<w5.heap.size) (fun q=>q<w5.heap.size) (say_trees HTR.o _ _ _ _) HL5.o (HI.o.fr HF5.o).lay).mono ?_
 rintro e w6 ⟨rfl,hf⟩
 have HF6:Hid (Fr (fun _=>False) W w6):=HF5.o.trans hf
 clear hf
 go_wp2_with fail
 go_ret
 exact ⟨rfl,HF6.o⟩
end Go.Proofs.YtfficindoecpfaaGreatDoor.Pt
