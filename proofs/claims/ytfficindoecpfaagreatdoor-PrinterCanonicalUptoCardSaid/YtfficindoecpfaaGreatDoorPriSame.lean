/-
  The reference's comparison of trees returns true for trees that are equal apart from their offsets.
-/
import Derived.Test.YtfficindoecpfaaGreatDoorPkInc
import Derived.Test.YtfficindoecpfaaGreatDoorPkInv
import Derived.Laws.StructEq
import Derived.Deep.Cut
set_option maxHeartbeats 64000000
set_option maxRecDepth 100000
set_option linter.unusedVariables false
set_option linter.unusedSimpArgs false
namespace Go.Proofs.YtfficindoecpfaaGreatDoor.Pt
open Go.RowKit Mem Vw Rs
open Ic (RowB DT Lay LayL tsz jk7 jj5)
theorem ne_named (a0:ByteArray) (a1:Int) (W:World):(binOp .neq 109 (.agg #[.string a0,.int .i64 a1]) (.agg #[.string a0,.int .i64 a1])).run Tryz.prog W= .ok (.bool false) W:=by
 go_simp
theorem ne_span (a0:Int) (a1:Bool) (a2:ByteArray) (W:World):(binOp .neq 41 (.agg #[.int .i64 a0,.bool a1,.string a2]) (.agg #[.int .i64 a0,.bool a1,.string a2])).run Tryz.prog W= .ok (.bool false) W:=by
 go_simp
theorem ne_civil (a0:Int) (a1:Int) (a2:Int) (W:World):(binOp .neq 23 (.agg #[.int .i64 a0,.int .i64 a1,.int .i64 a2]) (.agg #[.int .i64 a0,.int .i64 a1,.int .i64 a2])).run Tryz.prog W= .ok (.bool false) W:=by
 go_simp
theorem eq_civil (a0:Int) (a1:Int) (a2:Int) (W:World):(binOp .eql 23 (.agg #[.int .i64 a0,.int .i64 a1,.int .i64 a2]) (.agg #[.int .i64 a0,.int .i64 a1,.int .i64 a2])).run Tryz.prog W= .ok (.bool true) W:=by
 go_simp
theorem ne_ratio (a0:Int) (a1:Int) (W:World):(binOp .neq 44 (.agg #[.int .i64 a0,.int .i64 a1]) (.agg #[.int .i64 a0,.int .i64 a1])).run Tryz.prog W= .ok (.bool false) W:=by
 go_simp
theorem ne_days (a b c d e f g:Bool) (W:World):(binOp .neq 45 (.agg #[.bool a,.bool b,.bool c,.bool d,.bool e,.bool f,.bool g]) (.agg #[.bool a,.bool b,.bool c,.bool d,.bool e,.bool f,.bool g])).run Tryz.prog W= .ok (.bool false) W:=by
 cases a<;>cases b<;>cases c<;>cases d<;>cases e<;>cases f<;>cases g<;>kernel_rfl
theorem row_drewN {W:World} {v:Value} {z:Nat} {xs:List (List Value)} (h:Row W v z xs) (m:Nat):Row (W.drewN m) v z xs:=h.below (below_drewN (Below.refl _ W) m)
theorem strings_true (xs:List Rs.Bytes) (va vb:Value) (w:World) (ha:Row w va 1 (xs.map (fun x=> [sv x]))) (hb:Row w vb 1 (xs.map (fun x=> [sv x]))):
  Calls Tryz.prog 107 #[va,vb] w fun e w'=>e= .returned (.bool true)∧ ∃m,w'=w.drewN m:=by
 have hlen:=ha.len
 rw [List.length_map] at hlen
 obtain ⟨A,ca,rfl,hca,ha⟩:=ha
 obtain ⟨B,cb,rfl,hcb,hb⟩:=hb
 rw [List.length_map] at*
 have HA:=hdd ha;clear ha
 have HB:=hdd hb;clear hb
 go_enter Tryz.func107,Tryz.ntmps107
 go_wp2_with fail
 go_loopw [5] (fun i wr=> ∃(j m:Nat),i= .int .i64 j∧j≤xs.length∧wr=w.drewN m) (fun i _=>xs.length-(intOf i).toNat)
 case atStart=>exact ⟨0,0,rfl,by omega,rfl⟩
 case round=>
  obtain ⟨j,m,rfl,hj,rfl⟩:=hrel
  by_cases hlt:j<xs.length
  ·have hne:xs.map (fun x=> [sv x])≠ []:=by intro e;rw [List.map_eq_nil_iff] at e;rw [e] at hlt;simp at hlt
   obtain ⟨g1,o1,rfl,hg1,hr⟩:=HA.o.resolve_left hne
   obtain ⟨g2,o2,rfl,hg2,hr'⟩:=HB.o.resolve_left hne
   have hr:=hr j ((fun x=> [sv x]) xs[j]) (by simp [hlt])
   have hr':=hr' j ((fun x=> [sv x]) xs[j]) (by simp [hlt])
   have c10:w.cell? ⟨g1,o1+j,none⟩=some (.string ⟨(xs[j]).toArray⟩):=by simpa [sv] using hr 0 _ rfl
   have c20:w.cell? ⟨g2,o2+j,none⟩=some (.string ⟨(xs[j]).toArray⟩):=by simpa [sv] using hr' 0 _ rfl
   have HLT:=hdd hlt
   clear hr hr'
   generalize xs[j]=y at*
   go_wp2_with fail
   go_quiet (fail)
   go_wp2_with fail
   go_roundw
   case rel=>exact ⟨j+1,m+nq,by go_num,HLT.o,rfl⟩
   case measure=>have:=HLT.o;simp [intOf];omega
  ·go_wp2_with fail
   go_ret
   exact ⟨rfl,m,rfl⟩
theorem kx1 {P:Program} {ops:Array Oper} {rest:List Oper} {op:Oper} {a:Act} {w:World} {Q:Exit→Act→World→Prop} (hw:Region.wanted op (yielded ops a.tmps)=true) (ty:TypeId) (x:Operand) (ho:op.op= .load ty x)
  (b:Nat) (hx:a.eval x= .pointer (some ⟨b,0,none⟩)) (cs:List Value) (t:TypeId) (d:TypeDesc) (hc:w.heap[b]?=some (.cells cs.toArray t (0,0)))
  (hu:P.underlying ty=some d) (hd:d.isRow=true) (hi:(P.info? ty).map (·.size)=some cs.length)
  (h:wpList P ops Q rest (a.put op.dst (.agg cs.toArray)) w):wpList P ops Q (op::rest) a w:=
 wpList_step fun _ hK=>by rw [if_pos hw];exact wp_load_mid ty x ho b 0 hx cs d (At.of_blk hc) hu hd hi (hK _ _ h)
theorem lists_true (h h2:Rs.Item) (cA dA nA iA cB dB nB iB:Value) (w:World) (Ba Bb:Nat→Prop) (hca:RowB Ba w cA 2 (h.conds.map namedc)) (hda:RowB Ba w dA 3 (h.dates.map civilc)) (hna:RowB Ba w nA 1 (h.names.map fun x=> [sv x])) (hcb:RowB Bb w cB 2 (h.conds.map namedc)) (hdb:RowB Bb w dB 3 (h.dates.map civilc)) (hnb:RowB Bb w nB 1 (h.names.map fun x=> [sv x])):
  Calls Tryz.prog 67 #[.agg (icells h cA dA nA iA).toArray,.agg (icells h2 cB dB nB iB).toArray] w fun e w'=>e= .returned (.bool true)∧Fr (fun _=>False) w w':=by
 have hf1:=hca.1;have hf2:=hda.1;have hf3:=hna.1;have hg1:=hcb.1;have hg2:=hdb.1;have hg3:=hnb.1
 clear hca hda hna hcb hdb hnb
 go_enter Tryz.func67,Tryz.ntmps67
 go_upto_region 1 with fail
 have HB2:Hid (Below w.heap.size w ((w.alloc (.cells (icells h cA dA nA iA).toArray 49)).alloc (.cells (icells h2 cB dB nB iB).toArray 49))):=(((Below.refl _ w).alloc (Nat.le_refl _) _).alloc (by simp) _)
 have HI1:Hid (((w.alloc (.cells (icells h cA dA nA iA).toArray 49)).alloc (.cells (icells h2 cB dB nB iB).toArray 49)).heap[w.heap.size]?=some (.cells (icells h cA dA nA iA).toArray 49 (0,0))):=jx1 (jq3 rfl) _
 have HI2:Hid (((w.alloc (.cells (icells h cA dA nA iA).toArray 49)).alloc (.cells (icells h2 cB dB nB iB).toArray 49)).heap[w.heap.size+1]?=some (.cells (icells h2 cB dB nB iB).toArray 49 (0,0))):=jq3 (by simp)
 generalize ((w.alloc (.cells (icells h cA dA nA iA).toArray 49)).alloc (.cells (icells h2 cB dB nB iB).toArray 49))=u at*
 have hf1:=hf1.below HB2.o
 have hf2:=hf2.below HB2.o
 have HF3:=hdd (hf3.below HB2.o)
 have hg1:=hg1.below HB2.o
 have hg2:=hg2.below HB2.o
 have HG3:=hdd (hg3.below HB2.o)
 have hl1:=hf1.len
 have hl2:=hf2.len
 obtain ⟨A1,ca1,rfl,_,hf1⟩:=hf1
 obtain ⟨A2,ca2,rfl,_,hf2⟩:=hf2
 obtain ⟨B1,cb1,rfl,_,hg1⟩:=hg1
 obtain ⟨B2,cb2,rfl,_,hg2⟩:=hg2
 simp only [List.length_map] at HI1 HI2 hl1 hl2 ⊢
 have HF1:=hdd hf1;have HF2:=hdd hf2;have HG1:=hdd hg1;have HG2:=hdd hg2
 clear hf1 hf2 hg1 hg2 hf3 hg3
 have x13:u.cell? ⟨w.heap.size,13,none⟩=some (.slice A1 h.conds.length ca1):=jq0 HI1.o 13
 have y13:u.cell? ⟨w.heap.size+1,13,none⟩=some (.slice B1 h.conds.length cb1):=jq0 HI2.o 13
 have x30:u.cell? ⟨w.heap.size,30,none⟩=some (.slice A2 h.dates.length ca2):=jq0 HI1.o 30
 have y30:u.cell? ⟨w.heap.size+1,30,none⟩=some (.slice B2 h.dates.length cb2):=jq0 HI2.o 30
 have x31:u.cell? ⟨w.heap.size,31,none⟩=some nA:=jq0 HI1.o 31
 have y31:u.cell? ⟨w.heap.size+1,31,none⟩=some nB:=jq0 HI2.o 31
 clear HI1 HI2
 go_wp2_with fail
 go_loopw [5] (fun i wr=> ∃(j m:Nat),i= .int .i64 j∧j≤h.conds.length∧wr=u.drewN m) (fun i _=>h.conds.length-(intOf i).toNat)
 case atStart=>exact ⟨0,0,rfl,Nat.zero_le _,rfl⟩
 case round=>
  obtain ⟨j,m,rfl,hj,rfl⟩:=hrel
  by_cases hlt:j<h.conds.length
  ·have hne:h.conds.map namedc≠ []:=by intro e;rw [List.map_eq_nil_iff] at e;rw [e] at hlt;simp at hlt
   obtain ⟨g1,o1,rfl,hg1,hr⟩:=HF1.o.resolve_left hne
   obtain ⟨g2,o2,rfl,hg2,hr'⟩:=HG1.o.resolve_left hne
   have hr:=hr j (namedc h.conds[j]) (by simp [hlt])
   have hr':=hr' j (namedc h.conds[j]) (by simp [hlt])
   have c1:u.cell? ⟨g1,o1+j*2,none⟩=some (.string ⟨h.conds[j].name.toArray⟩):=hr 0 _ rfl
   have c2:u.cell? ⟨g1,o1+j*2+1,none⟩=some (.int .i64 h.conds[j].is_):=hr 1 _ rfl
   have c3:u.cell? ⟨g2,o2+j*2,none⟩=some (.string ⟨h.conds[j].name.toArray⟩):=hr' 0 _ rfl
   have c4:u.cell? ⟨g2,o2+j*2+1,none⟩=some (.int .i64 h.conds[j].is_):=hr' 1 _ rfl
   have HLT:=hdd hlt
   clear hr hr'
   have hnn:=ne_named ⟨h.conds[j].name.toArray⟩ h.conds[j].is_
   generalize (⟨h.conds[j].name.toArray⟩:ByteArray)=y at*
   generalize h.conds[j].is_=z at*
   go_wp2_with fail
   go_quiet (fail)
   go_wp2_with fail
   go_roundw
   case rel=>exact ⟨j+1,m+nq,by go_num,HLT.o,rfl⟩
   case measure=>have:=HLT.o;simp [intOf];omega
  ·clear HF1 HG1
   have dn:decide ((j:Int)<(h.conds.length:Int))=false:=by simp;omega
   go_wp2_with fail
   go_loopw [6] (fun i wr=> ∃(j m:Nat),i= .int .i64 j∧j≤h.dates.length∧wr=u.drewN m) (fun i _=>h.dates.length-(intOf i).toNat)
   case atStart=>exact ⟨0,m,rfl,Nat.zero_le _,rfl⟩
   case round=>
    obtain ⟨j,m,rfl,hj,rfl⟩:=hrel
    by_cases hlt:j<h.dates.length
    ·have hne:h.dates.map civilc≠ []:=by intro e;rw [List.map_eq_nil_iff] at e;rw [e] at hlt;simp at hlt
     obtain ⟨g1,o1,rfl,hg1,hr⟩:=HF2.o.resolve_left hne
     obtain ⟨g2,o2,rfl,hg2,hr'⟩:=HG2.o.resolve_left hne
     have hr:=hr j (civilc h.dates[j]) (by simp [hlt])
     have hr':=hr' j (civilc h.dates[j]) (by simp [hlt])
     have c1:u.cell? ⟨g1,o1+j*3,none⟩=some (.int .i64 h.dates[j].y):=hr 0 _ rfl
     have c2:u.cell? ⟨g1,o1+j*3+1,none⟩=some (.int .i64 h.dates[j].m):=hr 1 _ rfl
     have c3:u.cell? ⟨g1,o1+j*3+2,none⟩=some (.int .i64 h.dates[j].d):=hr 2 _ rfl
     have c4:u.cell? ⟨g2,o2+j*3,none⟩=some (.int .i64 h.dates[j].y):=hr' 0 _ rfl
     have c5:u.cell? ⟨g2,o2+j*3+1,none⟩=some (.int .i64 h.dates[j].m):=hr' 1 _ rfl
     have c6:u.cell? ⟨g2,o2+j*3+2,none⟩=some (.int .i64 h.dates[j].d):=hr' 2 _ rfl
     have HLT:=hdd hlt
     clear hr hr'
     have hnn:=ne_civil h.dates[j].y h.dates[j].m h.dates[j].d
     generalize h.dates[j].y=y1 at*
     generalize h.dates[j].m=y2 at*
     generalize h.dates[j].d=y3 at*
     go_wp2_with fail
     go_quiet (fail)
     go_wp2_with fail
     go_roundw
     case rel=>exact ⟨j+1,m+nq,by go_num,HLT.o,rfl⟩
     case measure=>have:=HLT.o;simp [intOf];omega
    ·clear HF2 HG2
     go_wp2_with fail
     refine (strings_true h.names nA nB _ (row_drewN HF3.o m) (row_drewN HG3.o m)).mono ?_
     rintro e w' ⟨rfl,m',rfl⟩
     go_wp2_with fail
     go_ret
     exact ⟨rfl,Fr.of_below (below_drewN HB2.o _)⟩
def Say (a b:List DT) (va vb:Value) (Ba Bb:Nat→Prop):Prop:= ∀w,LayL Ba w a va→LayL Bb w b vb→Calls Tryz.prog 31 #[va,vb,.bool false] w fun e w'=>e= .returned (.bool true)∧Fr (fun _=>False) w w'
theorem items_say (a b:List DT) (va vb:Value) (Ba Bb:Nat→Prop) (hlen:b.length=a.length) (hE: ∀(j:Nat) (x y:DT),a[j]?=some x→b[j]?=some y→EqH x.h y.h∧Say x.l y.l x.i y.i Ba Bb):Say a b va vb Ba Bb:=by
 intro w hA hB
 obtain ⟨A,ca,rfl,hc1,hc2⟩:=hA.slice
 obtain ⟨B,cb,rfl,_,_⟩:=hB.slice
 rw [hlen] at hB ⊢
 have HA:=hdd hA;have HB:=hdd hB;have HE:=hdd hE;have HLEN:=hdd hlen
 clear hA hB hE hlen
 have hzl:a.length≤9223372036854775807:=by omega
 go_enter Tryz.func31,Tryz.ntmps31
 go_wp2_with fail
 go_loopw [7] (fun i wr=> ∃j:Nat,i= .int .i64 j∧j≤a.length∧Hid (Fr (fun _=>False) w wr)) (fun i _=>a.length-(intOf i).toNat)
 case atStart=>exact ⟨0,rfl,Nat.zero_le _,Fr.refl _ _⟩
 case round=>
  obtain ⟨j,rfl,hj,HF⟩:=hrel
  have i1:(0:Int)≤(j:Int):=Int.natCast_nonneg _
  by_cases hlt:j<a.length
  ·have i2:(j:Int)<(a.length:Int):=by omega
   obtain ⟨x,hx⟩: ∃x,a[j]?=some x:=⟨_,List.getElem?_eq_getElem hlt⟩
   obtain ⟨y,hy⟩: ∃y,b[j]?=some y:=⟨_,List.getElem?_eq_getElem (by rw [HLEN.o];exact hlt)⟩
   obtain ⟨heq,hsay⟩:=HE.o j x y hx hy
   have HAr:Hid (LayL Ba wr a (.slice A a.length ca)):=HA.o.fr HF.o (fun _ _ h=>h)
   have HBr:Hid (LayL Bb wr b (.slice B a.length cb)):=HB.o.fr HF.o (fun _ _ h=>h)
   obtain ⟨g1,o1,hA1,hg1,_,hat1⟩:=HAr.o.at hx
   obtain ⟨g2,o2,hB1,hg2,_,hat2⟩:=HBr.o.at hy
   subst hA1
   subst hB1
   have hlx:=HAr.o.lay x (List.mem_of_getElem? hx)
   have hly:=HBr.o.lay y (List.mem_of_getElem? hy)
   have HONEX:=hdd hlx.one
   have HONEY:=hdd hly.one
   have HITX:=hdd (jj5 x);have HITY:=hdd (jj5 y)
   clear hx hy
   obtain ⟨h,cA,dA,nA,iA,lA⟩:=x
   obtain ⟨h2,cB,dB,nB,iB,lB⟩:=y
   have heq:h2= {h with pos:=h2.pos}:=heq
   obtain ⟨P,hP⟩: ∃P,h2.pos=P:=⟨_,rfl⟩
   rw [hP] at heq
   subst heq
   clear hP
   have HSAY:Hid (Say lA lB iA iB Ba Bb):=hsay
   have kc1:RowB Ba wr cA 2 (h.conds.map namedc):=hlx.conds
   have kd1:RowB Ba wr dA 3 (h.dates.map civilc):=hlx.dates
   have kn1:RowB Ba wr nA 1 (h.names.map fun x=> [sv x]):=hlx.names
   have HI1:Hid (LayL Ba wr lA iA):=hlx.items
   have kc2:RowB Bb wr cB 2 (h.conds.map namedc):=hly.conds
   have kd2:RowB Bb wr dB 3 (h.dates.map civilc):=hly.dates
   have kn2:RowB Bb wr nB 1 (h.names.map fun x=> [sv x]):=hly.names
   have HI2:Hid (LayL Bb wr lB iB):=hly.items
   have KC1:=hdd kc1;have KD1:=hdd kd1;have KN1:=hdd kn1;have KC2:=hdd kc2;have KD2:=hdd kd2;have KN2:=hdd kn2
   have hat1:At wr g1 (o1+j*33) (icells h cA dA nA iA):=hat1
   have hat2:At wr g2 (o2+j*33) (icells {h with pos:=P} cB dB nB iB):=hat2
   have HONEX:Hid ((icells h cA dA nA iA).toArray.all (·.oneCell')=true):=HONEX.o
   have HONEY:Hid ((icells {h with pos:=P} cB dB nB iB).toArray.all (·.oneCell')=true):=HONEY.o
   have HITX:Hid ((Tryz.prog.info? 49).map (·.size)=some (icells h cA dA nA iA).length):=HITX.o
   have HITY:Hid ((Tryz.prog.info? 49).map (·.size)=some (icells {h with pos:=P} cB dB nB iB).length):=HITY.o
   have HAT1:=hdd hat1;have HAT2:=hdd hat2;have HG2:=hdd hg2
   have HLT:=hdd hlt
   clear hat1 hat2 hg1 hg2 hlt hlx hly hsay kc1 kd1 kn1 kc2 kd2 kn2 HAr HBr
   go_upto_region 6 with fail
   iterate 10 go_step
   refine wpList_load_mid rfl 49 _ rfl g1 (o1+j*33) rfl (icells h cA dA nA iA) _ HAT1.o Tryz.underlying49 rfl HITX.o ?_
   simp only [Act.put,List.setIfInBounds_toArray,List.set_cons_zero,List.set_cons_succ]
   iterate 3 go_step
   refine wpList_store_row rfl 49 _ _ rfl wr.heap.size (icells h cA dA nA iA).toArray rfl rfl 49 _ (jq3 rfl) HITX.o rfl HONEX.o ?_
   simp only [Act.put,List.setIfInBounds_toArray,List.set_cons_zero,List.set_cons_succ]
   rw [World.setRow_alloc_new]
   obtain ⟨u1,hu1⟩: ∃u,wr.alloc (.cells (icells h cA dA nA iA).toArray 49)=u:=⟨_,rfl⟩
   obtain ⟨q1,HQ1⟩: ∃q,Hid (wr.heap.size=q):=⟨_,rfl⟩
   rw [hu1,HQ1.o]
   have HX1:Hid (u1.heap[q1]?=some (.cells (icells h cA dA nA iA).toArray 49 (0,0))):=by rw [←hu1];exact jq3 HQ1.o.symm
   have HF1:Hid (Fr (fun _=>False) wr u1):=by rw [←hu1];exact (Fr.refl _ wr).alloc _
   have HAT3:Hid (At u1 g2 (o2+j*33) (icells {h with pos:=P} cB dB nB iB)):=fun k v hk=>by
    have h5:=HAT2.o k v hk
    have h6:=HF1.o.block g2 HG2.o (fun h=>h)
    unfold World.cell? at h5 ⊢
    simpa only [h6] using h5
   clear hu1 HAT1 HAT2
   go_upto_region 7 with fail
   iterate 10 go_step
   refine wpList_load_mid rfl 49 _ rfl g2 (o2+j*33) rfl (icells {h with pos:=P} cB dB nB iB) _ HAT3.o Tryz.underlying49 rfl HITY.o ?_
   simp only [Act.put,List.setIfInBounds_toArray,List.set_cons_zero,List.set_cons_succ]
   iterate 3 go_step
   refine wpList_store_row rfl 49 _ _ rfl u1.heap.size (icells {h with pos:=P} cB dB nB iB).toArray rfl rfl 49 _ (jq3 rfl) HITY.o rfl HONEY.o ?_
   simp only [Act.put,List.setIfInBounds_toArray,List.set_cons_zero,List.set_cons_succ]
   rw [World.setRow_alloc_new]
   obtain ⟨u2,hu2⟩: ∃u,u1.alloc (.cells (icells {h with pos:=P} cB dB nB iB).toArray 49)=u:=⟨_,rfl⟩
   obtain ⟨q2,HQ2⟩: ∃q,Hid (u1.heap.size=q):=⟨_,rfl⟩
   rw [hu2,HQ2.o]
   have HX:Hid (u2.heap[q1]?=some (.cells (icells h cA dA nA iA).toArray 49 (0,0))):=by rw [←hu2];exact jx1 HX1.o _
   have HY:Hid (u2.heap[q2]?=some (.cells (icells {h with pos:=P} cB dB nB iB).toArray 49 (0,0))):=by rw [←hu2];exact jq3 HQ2.o.symm
   have HF2:Hid (Fr (fun _=>False) wr u2):=by rw [←hu2];exact HF1.o.alloc _
   clear hu2 HX1 HF1 HAT3
   have x0:u2.cell? ⟨q1,0,none⟩=some (.int .i64 h.kind):=(jq0 HX.o 0).trans rfl
   have y0:u2.cell? ⟨q2,0,none⟩=some (.int .i64 h.kind):=(jq0 HY.o 0).trans rfl
   have x1:u2.cell? ⟨q1,1,none⟩=some (.string ⟨h.name.toArray⟩):=(jq0 HX.o 1).trans rfl
   have y1:u2.cell? ⟨q2,1,none⟩=some (.string ⟨h.name.toArray⟩):=(jq0 HY.o 1).trans rfl
   have x3:u2.cell? ⟨q1,3,none⟩=some (.string ⟨h.of_.toArray⟩):=(jq0 HX.o 3).trans rfl
   have y3:u2.cell? ⟨q2,3,none⟩=some (.string ⟨h.of_.toArray⟩):=(jq0 HY.o 3).trans rfl
   have x4:u2.cell? ⟨q1,4,none⟩=some (.string ⟨h.act.toArray⟩):=(jq0 HX.o 4).trans rfl
   have y4:u2.cell? ⟨q2,4,none⟩=some (.string ⟨h.act.toArray⟩):=(jq0 HY.o 4).trans rfl
   have x5:u2.cell? ⟨q1,5,none⟩=some (.int .i64 h.word):=(jq0 HX.o 5).trans rfl
   have y5:u2.cell? ⟨q2,5,none⟩=some (.int .i64 h.word):=(jq0 HY.o 5).trans rfl
   have x6:u2.cell? ⟨q1,6,none⟩=some (.int .i64 h.times):=(jq0 HX.o 6).trans rfl
   have y6:u2.cell? ⟨q2,6,none⟩=some (.int .i64 h.times):=(jq0 HY.o 6).trans rfl
   have x7:u2.cell? ⟨q1,7,none⟩=some (.int .i64 h.within.days):=(jq0 HX.o 7).trans rfl
   have y7:u2.cell? ⟨q2,7,none⟩=some (.int .i64 h.within.days):=(jq0 HY.o 7).trans rfl
   have x8:u2.cell? ⟨q1,8,none⟩=some (.bool h.within.bus):=(jq0 HX.o 8).trans rfl
   have y8:u2.cell? ⟨q2,8,none⟩=some (.bool h.within.bus):=(jq0 HY.o 8).trans rfl
   have x9:u2.cell? ⟨q1,9,none⟩=some (.string ⟨h.within.name.toArray⟩):=(jq0 HX.o 9).trans rfl
   have y9:u2.cell? ⟨q2,9,none⟩=some (.string ⟨h.within.name.toArray⟩):=(jq0 HY.o 9).trans rfl
   have x10:u2.cell? ⟨q1,10,none⟩=some (.int .i64 h.grace.days):=(jq0 HX.o 10).trans rfl
   have y10:u2.cell? ⟨q2,10,none⟩=some (.int .i64 h.grace.days):=(jq0 HY.o 10).trans rfl
   have x11:u2.cell? ⟨q1,11,none⟩=some (.bool h.grace.bus):=(jq0 HX.o 11).trans rfl
   have y11:u2.cell? ⟨q2,11,none⟩=some (.bool h.grace.bus):=(jq0 HY.o 11).trans rfl
   have x12:u2.cell? ⟨q1,12,none⟩=some (.string ⟨h.grace.name.toArray⟩):=(jq0 HX.o 12).trans rfl
   have y12:u2.cell? ⟨q2,12,none⟩=some (.string ⟨h.grace.name.toArray⟩):=(jq0 HY.o 12).trans rfl
   have hs1:=ne_span h.within.days h.within.bus ⟨h.within.name.toArray⟩
   have hs2:=ne_span h.grace.days h.grace.bus ⟨h.grace.name.toArray⟩
   go_upto_region 10 with fail
   clear hs1 hs2 x0 y0 x1 y1 x3 y3 x4 y4 x5 y5 x6 y6 x7 y7 x8 y8 x9 y9 x10 y10 x11 y11 x12 y12
   obtain ⟨b0,Hb0⟩: ∃b,Hid (h.days.getD 0 false=b):=⟨_,rfl⟩
   obtain ⟨b1,Hb1⟩: ∃b,Hid (h.days.getD 1 false=b):=⟨_,rfl⟩
   obtain ⟨b2,Hb2⟩: ∃b,Hid (h.days.getD 2 false=b):=⟨_,rfl⟩
   obtain ⟨b3,Hb3⟩: ∃b,Hid (h.days.getD 3 false=b):=⟨_,rfl⟩
   obtain ⟨b4,Hb4⟩: ∃b,Hid (h.days.getD 4 false=b):=⟨_,rfl⟩
   obtain ⟨b5,Hb5⟩: ∃b,Hid (h.days.getD 5 false=b):=⟨_,rfl⟩
   obtain ⟨b6,Hb6⟩: ∃b,Hid (h.days.getD 6 false=b):=⟨_,rfl⟩
   have x14:u2.cell? ⟨q1,14,none⟩=some (.string ⟨h.by_.toArray⟩):=(jq0 HX.o 14).trans rfl
   have y14:u2.cell? ⟨q2,14,none⟩=some (.string ⟨h.by_.toArray⟩):=(jq0 HY.o 14).trans rfl
   have x15:u2.cell? ⟨q1,15,none⟩=some (.string ⟨h.til.toArray⟩):=(jq0 HX.o 15).trans rfl
   have y15:u2.cell? ⟨q2,15,none⟩=some (.string ⟨h.til.toArray⟩):=(jq0 HY.o 15).trans rfl
   have x16:u2.cell? ⟨q1,16,none⟩=some (.int .i64 h.num.num):=(jq0 HX.o 16).trans rfl
   have y16:u2.cell? ⟨q2,16,none⟩=some (.int .i64 h.num.num):=(jq0 HY.o 16).trans rfl
   have x17:u2.cell? ⟨q1,17,none⟩=some (.int .i64 h.num.den):=(jq0 HX.o 17).trans rfl
   have y17:u2.cell? ⟨q2,17,none⟩=some (.int .i64 h.num.den):=(jq0 HY.o 17).trans rfl
   have x18:u2.cell? ⟨q1,18,none⟩=some (.string ⟨h.unit.toArray⟩):=(jq0 HX.o 18).trans rfl
   have y18:u2.cell? ⟨q2,18,none⟩=some (.string ⟨h.unit.toArray⟩):=(jq0 HY.o 18).trans rfl
   have x19:u2.cell? ⟨q1,19,none⟩=some (.string ⟨h.sum.toArray⟩):=(jq0 HX.o 19).trans rfl
   have y19:u2.cell? ⟨q2,19,none⟩=some (.string ⟨h.sum.toArray⟩):=(jq0 HY.o 19).trans rfl
   have x20:u2.cell? ⟨q1,20,none⟩=some (.bool h.fin):=(jq0 HX.o 20).trans rfl
   have y20:u2.cell? ⟨q2,20,none⟩=some (.bool h.fin):=(jq0 HY.o 20).trans rfl
   have x21:u2.cell? ⟨q1,21,none⟩=some (.string ⟨h.give.toArray⟩):=(jq0 HX.o 21).trans rfl
   have y21:u2.cell? ⟨q2,21,none⟩=some (.string ⟨h.give.toArray⟩):=(jq0 HY.o 21).trans rfl
   have x22:u2.cell? ⟨q1,22,none⟩=some (.string ⟨h.to_.toArray⟩):=(jq0 HX.o 22).trans rfl
   have y22:u2.cell? ⟨q2,22,none⟩=some (.string ⟨h.to_.toArray⟩):=(jq0 HY.o 22).trans rfl
   have x23:u2.cell? ⟨q1,23,none⟩=some (.bool b0):=by rw [←Hb0.o];exact (jq0 HX.o 23).trans rfl
   have y23:u2.cell? ⟨q2,23,none⟩=some (.bool b0):=by rw [←Hb0.o];exact (jq0 HY.o 23).trans rfl
   have x24:u2.cell? ⟨q1,24,none⟩=some (.bool b1):=by rw [←Hb1.o];exact (jq0 HX.o 24).trans rfl
   have y24:u2.cell? ⟨q2,24,none⟩=some (.bool b1):=by rw [←Hb1.o];exact (jq0 HY.o 24).trans rfl
   have x25:u2.cell? ⟨q1,25,none⟩=some (.bool b2):=by rw [←Hb2.o];exact (jq0 HX.o 25).trans rfl
   have y25:u2.cell? ⟨q2,25,none⟩=some (.bool b2):=by rw [←Hb2.o];exact (jq0 HY.o 25).trans rfl
   have x26:u2.cell? ⟨q1,26,none⟩=some (.bool b3):=by rw [←Hb3.o];exact (jq0 HX.o 26).trans rfl
   have y26:u2.cell? ⟨q2,26,none⟩=some (.bool b3):=by rw [←Hb3.o];exact (jq0 HY.o 26).trans rfl
   have x27:u2.cell? ⟨q1,27,none⟩=some (.bool b4):=by rw [←Hb4.o];exact (jq0 HX.o 27).trans rfl
   have y27:u2.cell? ⟨q2,27,none⟩=some (.bool b4):=by rw [←Hb4.o];exact (jq0 HY.o 27).trans rfl
   have x28:u2.cell? ⟨q1,28,none⟩=some (.bool b5):=by rw [←Hb5.o];exact (jq0 HX.o 28).trans rfl
   have y28:u2.cell? ⟨q2,28,none⟩=some (.bool b5):=by rw [←Hb5.o];exact (jq0 HY.o 28).trans rfl
   have x29:u2.cell? ⟨q1,29,none⟩=some (.bool b6):=by rw [←Hb6.o];exact (jq0 HX.o 29).trans rfl
   have y29:u2.cell? ⟨q2,29,none⟩=some (.bool b6):=by rw [←Hb6.o];exact (jq0 HY.o 29).trans rfl
   have hs3:=ne_ratio h.num.num h.num.den
   have hs4:=ne_days b0 b1 b2 b3 b4 b5 b6
   go_wp2_with (first|(refine kx1 (op:=⟨some 155,_,_,_,_,_⟩) ?hw 49 _ rfl q1 rfl (icells h cA dA nA iA) _ _ HX.o Tryz.underlying49 rfl HITX.o ?_;(case hw=>rfl))|(refine kx1 (op:=⟨some 156,_,_,_,_,_⟩) ?hw 49 _ rfl q2 rfl (icells {h with pos:=P} cB dB nB iB) _ _ HY.o Tryz.underlying49 rfl HITY.o ?_;(case hw=>rfl)))
   refine (lists_true h {h with pos:=P} cA dA nA iA cB dB nB iB u2 Ba Bb (KC1.o.fr HF2.o (fun _ _ h=>h)) (KD1.o.fr HF2.o (fun _ _ h=>h)) (KN1.o.fr HF2.o (fun _ _ h=>h)) (KC2.o.fr HF2.o (fun _ _ h=>h)) (KD2.o.fr HF2.o (fun _ _ h=>h)) (KN2.o.fr HF2.o (fun _ _ h=>h))).mono ?_
   rintro e w3 ⟨rfl,hf3⟩
   have HF3:Hid (Fr (fun _=>False) wr w3):=HF2.o.trans hf3
   have z32:w3.cell? ⟨q1,32,none⟩=some iA:=(jq0 (hf3.blk HX.o (fun h=>h)) 32).trans rfl
   have z33:w3.cell? ⟨q2,32,none⟩=some iB:=(jq0 (hf3.blk HY.o (fun h=>h)) 32).trans rfl
   clear hf3
   go_wp2_with fail
   refine (HSAY.o _ (HI1.o.fr HF3.o (fun _ _ h=>h)) (HI2.o.fr HF3.o (fun _ _ h=>h))).mono ?_
   rintro e w4 ⟨rfl,hf4⟩
   have HF4:Hid (Fr (fun _=>False) wr w4):=HF3.o.trans hf4
   clear hf4
   go_wp2_with fail
   go_roundw
   case rel=>exact ⟨j+1,by go_num,HLT.o,HF.o.trans HF4.o⟩
   case measure=>have:=HLT.o;simp [intOf];omega
  ·obtain rfl:j=a.length:=by omega
   go_wp2_with fail
   go_ret
   exact ⟨rfl,HF.o⟩
theorem same_true (s:Ic.Src) (a b:List DT) (va vb:Value) (w:World) (Ba Bb:Nat→Prop) (hS:Say a b va vb Ba Bb) (hA:LayL Ba w a va) (hB:LayL Bb w b vb):
  Calls Tryz.prog 14 #[.agg (scells s.name s.frm s.days va).toArray,.agg (scells s.name s.frm s.days vb).toArray,.bool false] w fun e w'=>e= .returned (.bool true)∧Fr (fun _=>False) w w':=by
 obtain ⟨w0,HW0⟩: ∃w0,Hid ((w.alloc (.cells (scells s.name s.frm s.days va).toArray 26)).alloc (.cells (scells s.name s.frm s.days vb).toArray 26)=w0):=⟨_,rfl⟩
 have HF0:Hid (Fr (fun _=>False) w w0):=by rw [←HW0.o];exact ((Fr.refl _ w).alloc _).alloc _
 have Hx:Hid (w0.heap[w.heap.size]?=some (.cells (scells s.name s.frm s.days va).toArray 26 (0,0))):=by rw [←HW0.o];exact jx1 (jq3 rfl) _
 have Hy:Hid (w0.heap[w.heap.size+1]?=some (.cells (scells s.name s.frm s.days vb).toArray 26 (0,0))):=by rw [←HW0.o];exact jq3 (by simp)
 have HI:=hdd (hS w0 (hA.fr HF0.o (fun _ _ h=>h)) (hB.fr HF0.o (fun _ _ h=>h)))
 obtain ⟨A,ca,rfl,_,_⟩:=hA.slice
 obtain ⟨B,cb,rfl,_,_⟩:=hB.slice
 have x0:w0.cell? ⟨w.heap.size,0,none⟩=some (.string ⟨s.name.toArray⟩):=(jq0 Hx.o 0).trans rfl
 have x1:w0.cell? ⟨w.heap.size,1,none⟩=some (.int .i64 s.frm.y):=(jq0 Hx.o 1).trans rfl
 have x2:w0.cell? ⟨w.heap.size,2,none⟩=some (.int .i64 s.frm.m):=(jq0 Hx.o 2).trans rfl
 have x3:w0.cell? ⟨w.heap.size,3,none⟩=some (.int .i64 s.frm.d):=(jq0 Hx.o 3).trans rfl
 have x4:w0.cell? ⟨w.heap.size,4,none⟩=some (.int .i64 s.days):=(jq0 Hx.o 4).trans rfl
 have x5:w0.cell? ⟨w.heap.size,5,none⟩=some (.slice A a.length ca):=(jq0 Hx.o 5).trans rfl
 have y0:w0.cell? ⟨w.heap.size+1,0,none⟩=some (.string ⟨s.name.toArray⟩):=(jq0 Hy.o 0).trans rfl
 have y1:w0.cell? ⟨w.heap.size+1,1,none⟩=some (.int .i64 s.frm.y):=(jq0 Hy.o 1).trans rfl
 have y2:w0.cell? ⟨w.heap.size+1,2,none⟩=some (.int .i64 s.frm.m):=(jq0 Hy.o 2).trans rfl
 have y3:w0.cell? ⟨w.heap.size+1,3,none⟩=some (.int .i64 s.frm.d):=(jq0 Hy.o 3).trans rfl
 have y4:w0.cell? ⟨w.heap.size+1,4,none⟩=some (.int .i64 s.days):=(jq0 Hy.o 4).trans rfl
 have y5:w0.cell? ⟨w.heap.size+1,5,none⟩=some (.slice B b.length cb):=(jq0 Hy.o 5).trans rfl
 have n1:=eq_civil s.frm.y s.frm.m s.frm.d
 clear hA hB hS
 go_enter Tryz.func14,Tryz.ntmps14
 go_upto_region 1 with fail
 rw [HW0.o]
 clear HW0
 go_wp2_with fail
 refine HI.o.mono ?_
 rintro e w4 ⟨rfl,hf4⟩
 have HF4:=hdd hf4
 clear hf4
 go_wp2_with fail
 go_ret
 exact ⟨rfl,HF0.o.trans HF4.o⟩
end Go.Proofs.YtfficindoecpfaaGreatDoor.Pt
