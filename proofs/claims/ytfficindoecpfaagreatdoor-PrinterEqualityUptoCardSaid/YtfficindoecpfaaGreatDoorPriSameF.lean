/-
  The reference's comparison of trees says exactly whether they are equal apart from their offsets.
-/
import Derived.Test.YtfficindoecpfaaGreatDoorPriSameR
import Derived.Test.YtfficindoecpfaaGreatDoorPriPos
set_option maxHeartbeats 64000000
set_option maxRecDepth 100000
set_option linter.unusedVariables false
set_option linter.unusedSimpArgs false
namespace Go.Proofs.YtfficindoecpfaaGreatDoor.Pt
open Go.RowKit Mem Vw Rs
open Ic (RowB DT Lay LayL tsz jv9 jv4)
def SayF (a b:List DT) (va vb:Value) (Ba Bb:Nat→Prop):Prop:= ∀w,LayL Ba w a va→LayL Bb w b vb→Calls Tryz.prog 31 #[va,vb,.bool false] w fun e w'=>(∃r:Bool,e= .returned (.bool r)∧(r=true↔EqLs (a.map DT.tree) (b.map DT.tree)))∧Fr (fun _=>False) w w'
theorem ba_eq (x y:Rs.Bytes):((⟨x.toArray⟩:ByteArray)==⟨y.toArray⟩)=(x==y):=by
 rw [Bool.eq_iff_iff,MapKept.bytes_beq,beq_iff_eq]
 constructor
 ·intro h
  have:=congrArg (fun b:ByteArray=>b.data.toList) h
  simpa using this
 ·intro h;rw [h]
theorem ba_ne {x y:Rs.Bytes} (h:x≠y):(!(⟨x.toArray⟩:ByteArray).toList==(⟨y.toArray⟩:ByteArray).toList)=true:=by
 rw [←beq_toListBytes,ba_eq]
 simp [h]
theorem strings_say (xs ys:List Rs.Bytes) (va vb:Value) (w:World) (ha:Row w va 1 (xs.map (fun x=> [sv x]))) (hb:Row w vb 1 (ys.map (fun x=> [sv x]))):
  Calls Tryz.prog 107 #[va,vb] w fun e w'=>(∃r:Bool,e= .returned (.bool r)∧(r=true↔ys=xs))∧ ∃m,w'=w.drewN m:=by
 have hlen:=ha.len
 have hlen2:=hb.len
 rw [List.length_map] at hlen hlen2
 obtain ⟨A,ca,rfl,hca,ha⟩:=ha
 obtain ⟨B,cb,rfl,hcb,hb⟩:=hb
 simp only [List.length_map] at hca hcb ⊢
 have HA:=hdd ha;clear ha
 have HB:=hdd hb;clear hb
 clear hca hcb
 by_cases hl:ys.length=xs.length
 ·rw [hl]
  have HL:=hdd hl
  clear hl hlen2
  go_enter Tryz.func107,Tryz.ntmps107
  go_wp2_with fail
  go_loopw [5] (fun i wr=> ∃(j m:Nat),i= .int .i64 j∧j≤xs.length∧Hid (∀k,k<j→ys[k]?=xs[k]?)∧wr=w.drewN m) (fun i _=>xs.length-(intOf i).toNat)
  case atStart=>exact ⟨0,0,rfl,Nat.zero_le _,hdd (fun k hk=>absurd hk (Nat.not_lt_zero _)),rfl⟩
  case round=>
   obtain ⟨j,m,rfl,hj,HEQ,rfl⟩:=hrel
   by_cases hlt:j<xs.length
   ·have hlt2:j<ys.length:=by rw [HL.o];exact hlt
    have hne:(xs.map fun x=> [sv x])≠ []:=by intro e;rw [List.map_eq_nil_iff] at e;rw [e] at hlt;simp at hlt
    have hne2:(ys.map fun x=> [sv x])≠ []:=by intro e;rw [List.map_eq_nil_iff] at e;rw [e] at hlt2;simp at hlt2
    obtain ⟨g,o,rfl,hg,hr⟩:=HA.o.resolve_left hne
    obtain ⟨g',o',rfl,hg',hr'⟩:=HB.o.resolve_left hne2
    have c1:w.cell? ⟨g,o+j,none⟩=some (.string ⟨xs[j].toArray⟩):=by have:=hr j [sv xs[j]] (by simp [hlt]) 0 _ rfl;simpa [sv] using this
    have c2:w.cell? ⟨g',o'+j,none⟩=some (.string ⟨ys[j].toArray⟩):=by have:=hr' j [sv ys[j]] (by simp [hlt2]) 0 _ rfl;simpa [sv] using this
    have HLT:=hdd hlt
    have HX:Hid (xs[j]?=some xs[j]):=List.getElem?_eq_getElem hlt
    have HY:Hid (ys[j]?=some ys[j]):=List.getElem?_eq_getElem hlt2
    clear hr hr' hne hne2
    by_cases he:ys[j]=xs[j]
    ·have HE:Hid (ys[j]?=xs[j]?):=by show ys[j]?=xs[j]?;rw [HX.o,HY.o,he]
     rw [he] at c2
     clear he
     generalize (⟨xs[j].toArray⟩:ByteArray)=y at*
     go_wp2_with fail
     go_quiet (fail)
     go_wp2_with fail
     go_roundw
     case rel=>exact ⟨j+1,m+nq,by go_num,HLT.o,hdd (fun k hk=>by
      rcases Nat.lt_succ_iff_lt_or_eq.1 hk with h|rfl
      ·exact HEQ.o k h
      ·exact HE.o),rfl⟩
     case measure=>have:=HLT.o;simp [intOf];omega
    ·have HE:=hdd he
     have hb:(!(⟨xs[j].toArray⟩:ByteArray).toList==(⟨ys[j].toArray⟩:ByteArray).toList)=true:=ba_ne (fun e=>he e.symm)
     clear he
     generalize (⟨xs[j].toArray⟩:ByteArray)=y at*
     generalize (⟨ys[j].toArray⟩:ByteArray)=z at*
     go_wp2_with fail
     go_quiet (fail)
     go_wp2_with fail
     go_ret
     refine ⟨⟨false,rfl,fun h=>(by cases h),fun h=>?_⟩,?_⟩
     rotate_left
     ·exact ⟨_,World.drewN_drewN _ _ _⟩
     have h2:=HY.o.symm.trans ((congrArg (fun l=>l[j]?) h).trans HX.o)
     injection h2 with h2
     exact absurd h2 HE.o
   ·obtain rfl:j=xs.length:=by omega
    go_wp2_with fail
    go_ret
    refine ⟨⟨true,rfl,fun _=>List.ext_getElem? (fun k=>?_),fun _=>rfl⟩,m,rfl⟩
    by_cases hk:k<xs.length
    ·exact HEQ.o k hk
    ·have:=HL.o;rw [List.getElem?_eq_none (show ys.length≤k by omega),List.getElem?_eq_none (show xs.length≤k by omega)]
 ·have HL:=hdd hl
  have hb:((xs.length:Int) !=(ys.length:Int))=true:=by rw [bne_iff_ne];omega
  clear hl
  go_enter Tryz.func107,Tryz.ntmps107
  go_wp2_with fail
  go_ret
  exact ⟨⟨false,rfl,fun h=>(by cases h),fun h=>absurd (congrArg List.length h) HL.o⟩,0,rfl⟩
theorem ne_named2 {x y:Rs.Named} (h:y≠x) (W:World):(binOp .neq 109 (.agg #[.string ⟨x.name.toArray⟩,.int .i64 x.is_]) (.agg #[.string ⟨y.name.toArray⟩,.int .i64 y.is_])).run Tryz.prog W= .ok (.bool true) W:=by
 have H:=hdd h
 clear h
 obtain ⟨a,b⟩:=x
 obtain ⟨c,d⟩:=y
 go_simp
 intro h1 h2
 exact H.o (by rw [h1,h2])
theorem ne_civil2 {x y:Rs.Civil} (h:y≠x) (W:World):(binOp .neq 23 (.agg #[.int .i64 x.y,.int .i64 x.m,.int .i64 x.d]) (.agg #[.int .i64 y.y,.int .i64 y.m,.int .i64 y.d])).run Tryz.prog W= .ok (.bool true) W:=by
 have H:=hdd h
 clear h
 obtain ⟨a,b,e⟩:=x
 obtain ⟨c,d,f⟩:=y
 go_simp
 intro h1 h2 h3
 exact H.o (by rw [h1,h2,h3])
theorem lists_say (h h2:Rs.Item) (cA dA nA iA cB dB nB iB:Value) (w:World) (Ba Bb:Nat→Prop) (hca:RowB Ba w cA 2 (h.conds.map namedc)) (hda:RowB Ba w dA 3 (h.dates.map civilc)) (hna:RowB Ba w nA 1 (h.names.map fun x=> [sv x])) (hcb:RowB Bb w cB 2 (h2.conds.map namedc)) (hdb:RowB Bb w dB 3 (h2.dates.map civilc)) (hnb:RowB Bb w nB 1 (h2.names.map fun x=> [sv x])):
  Calls Tryz.prog 67 #[.agg (icells h cA dA nA iA).toArray,.agg (icells h2 cB dB nB iB).toArray] w fun e w'=>(∃r:Bool,e= .returned (.bool r)∧(r=true↔h2.conds=h.conds∧h2.dates=h.dates∧h2.names=h.names))∧Fr (fun _=>False) w w':=by
 have hf1:=hca.1;have hf2:=hda.1;have hf3:=hna.1;have hg1:=hcb.1;have hg2:=hdb.1;have hg3:=hnb.1
 clear hca hda hna hcb hdb hnb
 go_enter Tryz.func67,Tryz.ntmps67
 go_upto_region 1 with fail
 have HB2:Hid (Below w.heap.size w ((w.alloc (.cells (icells h cA dA nA iA).toArray 49)).alloc (.cells (icells h2 cB dB nB iB).toArray 49))):=(((Below.refl _ w).alloc (Nat.le_refl _) _).alloc (by simp) _)
 have HI1:Hid (((w.alloc (.cells (icells h cA dA nA iA).toArray 49)).alloc (.cells (icells h2 cB dB nB iB).toArray 49)).heap[w.heap.size]?=some (.cells (icells h cA dA nA iA).toArray 49 (0,0))):=jx1 (jq2 rfl) _
 have HI2:Hid (((w.alloc (.cells (icells h cA dA nA iA).toArray 49)).alloc (.cells (icells h2 cB dB nB iB).toArray 49)).heap[w.heap.size+1]?=some (.cells (icells h2 cB dB nB iB).toArray 49 (0,0))):=jq2 (by simp)
 generalize ((w.alloc (.cells (icells h cA dA nA iA).toArray 49)).alloc (.cells (icells h2 cB dB nB iB).toArray 49))=u at*
 have hf1:=hf1.below HB2.o
 have hf2:=hf2.below HB2.o
 have HF3:=hdd (hf3.below HB2.o)
 have hg1:=hg1.below HB2.o
 have hg2:=hg2.below HB2.o
 have HG3:=hdd (hg3.below HB2.o)
 have hl1:=hf1.len
 have hl2:=hf2.len
 obtain ⟨A1,ca1,rfl,_,hf1⟩:=hf1
 obtain ⟨A2,ca2,rfl,_,hf2⟩:=hf2
 obtain ⟨B1,cb1,rfl,_,hg1⟩:=hg1
 obtain ⟨B2,cb2,rfl,_,hg2⟩:=hg2
 simp only [List.length_map] at HI1 HI2 hl1 hl2 ⊢
 have HF1:=hdd hf1;have HF2:=hdd hf2;have HG1:=hdd hg1;have HG2:=hdd hg2
 clear hf1 hf2 hg1 hg2 hf3 hg3
 have x13:u.cell? ⟨w.heap.size,13,none⟩=some (.slice A1 h.conds.length ca1):=jq0 HI1.o 13
 have y13:u.cell? ⟨w.heap.size+1,13,none⟩=some (.slice B1 h2.conds.length cb1):=jq0 HI2.o 13
 have x30:u.cell? ⟨w.heap.size,30,none⟩=some (.slice A2 h.dates.length ca2):=jq0 HI1.o 30
 have y30:u.cell? ⟨w.heap.size+1,30,none⟩=some (.slice B2 h2.dates.length cb2):=jq0 HI2.o 30
 have x31:u.cell? ⟨w.heap.size,31,none⟩=some nA:=jq0 HI1.o 31
 have y31:u.cell? ⟨w.heap.size+1,31,none⟩=some nB:=jq0 HI2.o 31
 clear HI1 HI2
 by_cases hc:h2.conds.length=h.conds.length
 case neg=>
  have HC:=hdd hc
  have hb:((h.conds.length:Int) !=(h2.conds.length:Int))=true:=by rw [bne_iff_ne];omega
  clear hc
  go_wp2_with fail
  go_ret
  exact ⟨⟨false,rfl,fun h=>(by cases h),fun h=>absurd (congrArg List.length h.1) HC.o⟩,Fr.of_below HB2.o⟩
 rw [hc] at y13
 have HLc:=hdd hc
 clear hc
 by_cases hc:h2.dates.length=h.dates.length
 case neg=>
  have HC:=hdd hc
  have hb:((h.dates.length:Int) !=(h2.dates.length:Int))=true:=by rw [bne_iff_ne];omega
  clear hc
  go_wp2_with fail
  go_ret
  exact ⟨⟨false,rfl,fun h=>(by cases h),fun h=>absurd (congrArg List.length h.2.1) HC.o⟩,Fr.of_below HB2.o⟩
 rw [hc] at y30
 have HLd:=hdd hc
 clear hc
 go_wp2_with fail
 go_loopw [5] (fun i wr=> ∃(j m:Nat),i= .int .i64 j∧j≤h.conds.length∧Hid (∀k,k<j→h2.conds[k]?=h.conds[k]?)∧wr=u.drewN m) (fun i _=>h.conds.length-(intOf i).toNat)
 case atStart=>exact ⟨0,0,rfl,Nat.zero_le _,hdd (fun k hk=>absurd hk (Nat.not_lt_zero _)),rfl⟩
 case round=>
  obtain ⟨j,m,rfl,hj,HEQ,rfl⟩:=hrel
  by_cases hlt:j<h.conds.length
  ·have hlt2:j<h2.conds.length:=by have:=HLc.o;omega
   have hne:h.conds.map namedc≠ []:=by intro e;rw [List.map_eq_nil_iff] at e;rw [e] at hlt;simp at hlt
   have hne2:h2.conds.map namedc≠ []:=by intro e;rw [List.map_eq_nil_iff] at e;rw [e] at hlt2;simp at hlt2
   obtain ⟨g1,o1,rfl,hg1,hr⟩:=HF1.o.resolve_left hne
   obtain ⟨g2,o2,rfl,hg2,hr'⟩:=HG1.o.resolve_left hne2
   have hr:=hr j (namedc h.conds[j]) (by simp [hlt])
   have hr':=hr' j (namedc h2.conds[j]) (by simp [hlt2])
   have HX:Hid (h.conds[j]?=some h.conds[j]):=List.getElem?_eq_getElem hlt
   have HY:Hid (h2.conds[j]?=some h2.conds[j]):=List.getElem?_eq_getElem hlt2
   generalize h.conds[j]=x at*
   generalize h2.conds[j]=y at*
   have c1:u.cell? ⟨g1,o1+j*2,none⟩=some (.string ⟨x.name.toArray⟩):=hr 0 _ rfl
   have c2:u.cell? ⟨g1,o1+j*2+1,none⟩=some (.int .i64 x.is_):=hr 1 _ rfl
   have c3:u.cell? ⟨g2,o2+j*2,none⟩=some (.string ⟨y.name.toArray⟩):=hr' 0 _ rfl
   have c4:u.cell? ⟨g2,o2+j*2+1,none⟩=some (.int .i64 y.is_):=hr' 1 _ rfl
   have HLT:=hdd hlt
   clear hr hr' hne hne2 hlt2
   by_cases he:y=x
   ·subst he
    have HE:Hid (h2.conds[j]?=h.conds[j]?):=by show h2.conds[j]?=h.conds[j]?;rw [HX.o,HY.o]
    have hnn:=ne_named ⟨y.name.toArray⟩ y.is_
    generalize (⟨y.name.toArray⟩:ByteArray)=y1 at*
    generalize y.is_=y2 at*
    go_wp2_with fail
    go_quiet (fail)
    go_wp2_with fail
    go_roundw
    case rel=>exact ⟨j+1,m+nq,by go_num,HLT.o,hdd (fun k hk=>by
     rcases Nat.lt_succ_iff_lt_or_eq.1 hk with h|rfl
     ·exact HEQ.o k h
     ·exact HE.o),rfl⟩
    case measure=>have:=HLT.o;simp [intOf];omega
   ·have HE:=hdd he
    have hnn:=ne_named2 he
    clear he
    go_wp2_with fail
    go_quiet (fail)
    go_wp2_with fail
    go_ret
    refine ⟨⟨false,rfl,fun h=>(by cases h),fun h=>?_⟩,?_⟩
    rotate_left
    ·exact Fr.of_below (below_drewN (below_drewN HB2.o _) _)
    have h2:=HY.o.symm.trans ((congrArg (fun l=>l[j]?) (h.1)).trans HX.o)
    injection h2 with h2
    exact absurd h2 HE.o
  ·obtain rfl:j=h.conds.length:=by omega
   have HEQL:Hid (h2.conds=h.conds):=List.ext_getElem? (fun k=>by
    by_cases hk:k<h.conds.length
    ·exact HEQ.o k hk
    ·have:=HLc.o
     rw [List.getElem?_eq_none (show h2.conds.length≤k by omega),List.getElem?_eq_none (show h.conds.length≤k by omega)])
   clear HEQ HF1 HG1
   have HCQ:=HEQL
   clear HEQL
   have dn:decide ((h.conds.length:Int)<(h.conds.length:Int))=false:=by simp
   go_wp2_with fail
   go_loopw [6] (fun i wr=> ∃(j m:Nat),i= .int .i64 j∧j≤h.dates.length∧Hid (∀k,k<j→h2.dates[k]?=h.dates[k]?)∧wr=u.drewN m) (fun i _=>h.dates.length-(intOf i).toNat)
   case atStart=>exact ⟨0,m,rfl,Nat.zero_le _,hdd (fun k hk=>absurd hk (Nat.not_lt_zero _)),rfl⟩
   case round=>
    obtain ⟨j,m,rfl,hj,HEQ,rfl⟩:=hrel
    by_cases hlt:j<h.dates.length
    ·have hlt2:j<h2.dates.length:=by have:=HLd.o;omega
     have hne:h.dates.map civilc≠ []:=by intro e;rw [List.map_eq_nil_iff] at e;rw [e] at hlt;simp at hlt
     have hne2:h2.dates.map civilc≠ []:=by intro e;rw [List.map_eq_nil_iff] at e;rw [e] at hlt2;simp at hlt2
     obtain ⟨g1,o1,rfl,hg1,hr⟩:=HF2.o.resolve_left hne
     obtain ⟨g2,o2,rfl,hg2,hr'⟩:=HG2.o.resolve_left hne2
     have hr:=hr j (civilc h.dates[j]) (by simp [hlt])
     have hr':=hr' j (civilc h2.dates[j]) (by simp [hlt2])
     have HX:Hid (h.dates[j]?=some h.dates[j]):=List.getElem?_eq_getElem hlt
     have HY:Hid (h2.dates[j]?=some h2.dates[j]):=List.getElem?_eq_getElem hlt2
     generalize h.dates[j]=x at*
     generalize h2.dates[j]=y at*
     have c1:u.cell? ⟨g1,o1+j*3,none⟩=some (.int .i64 x.y):=hr 0 _ rfl
     have c2:u.cell? ⟨g1,o1+j*3+1,none⟩=some (.int .i64 x.m):=hr 1 _ rfl
     have c3:u.cell? ⟨g1,o1+j*3+2,none⟩=some (.int .i64 x.d):=hr 2 _ rfl
     have c4:u.cell? ⟨g2,o2+j*3,none⟩=some (.int .i64 y.y):=hr' 0 _ rfl
     have c5:u.cell? ⟨g2,o2+j*3+1,none⟩=some (.int .i64 y.m):=hr' 1 _ rfl
     have c6:u.cell? ⟨g2,o2+j*3+2,none⟩=some (.int .i64 y.d):=hr' 2 _ rfl
     have HLT:=hdd hlt
     clear hr hr' hne hne2 hlt2
     by_cases he:y=x
     ·subst he
      have HE:Hid (h2.dates[j]?=h.dates[j]?):=by show h2.dates[j]?=h.dates[j]?;rw [HX.o,HY.o]
      have hnn:=ne_civil y.y y.m y.d
      generalize y.y=y1 at*
      generalize y.m=y2 at*
      generalize y.d=y3 at*
      go_wp2_with fail
      go_quiet (fail)
      go_wp2_with fail
      go_roundw
      case rel=>exact ⟨j+1,m+nq,by go_num,HLT.o,hdd (fun k hk=>by
       rcases Nat.lt_succ_iff_lt_or_eq.1 hk with h|rfl
       ·exact HEQ.o k h
       ·exact HE.o),rfl⟩
      case measure=>have:=HLT.o;simp [intOf];omega
     ·have HE:=hdd he
      have hnn:=ne_civil2 he
      clear he
      go_wp2_with fail
      go_quiet (fail)
      go_wp2_with fail
      go_ret
      refine ⟨⟨false,rfl,fun h=>(by cases h),fun h=>?_⟩,?_⟩
      rotate_left
      ·exact Fr.of_below (below_drewN (below_drewN HB2.o _) _)
      have h2:=HY.o.symm.trans ((congrArg (fun l=>l[j]?) (h.2.1)).trans HX.o)
      injection h2 with h2
      exact absurd h2 HE.o
    ·obtain rfl:j=h.dates.length:=by omega
     have HEQL:Hid (h2.dates=h.dates):=List.ext_getElem? (fun k=>by
      by_cases hk:k<h.dates.length
      ·exact HEQ.o k hk
      ·have:=HLd.o
       rw [List.getElem?_eq_none (show h2.dates.length≤k by omega),List.getElem?_eq_none (show h.dates.length≤k by omega)])
     clear HEQ HF2 HG2
     have dn:decide ((h.dates.length:Int)<(h.dates.length:Int))=false:=by simp
     go_wp2_with fail
     refine (strings_say h.names h2.names nA nB _ (row_drewN HF3.o m) (row_drewN HG3.o m)).mono ?_
     rintro e w' ⟨⟨r,rfl,hr⟩,m',rfl⟩
     have HR:=hdd hr
     clear hr
     go_wp2_with fail
     go_ret
     exact ⟨⟨r,rfl,fun hr=>⟨HCQ.o,HEQL.o,HR.o.1 hr⟩,fun hh=>HR.o.2 hh.2.2⟩,Fr.of_below (below_drewN HB2.o _)⟩
theorem kx2 {x y:Rs.Bytes} (h:(⟨x.toArray⟩:ByteArray)=⟨y.toArray⟩):x=y:=by
 have:=congrArg (fun b:ByteArray=>b.data.toList) h
 simpa using this
theorem days_ext {l m:List Bool} (hl:l.length=7) (hm:m.length=7) (h: ∀k,k<7→m.getD k false=l.getD k false):m=l:=by
 apply List.ext_getElem (by omega)
 intro k h1 h2
 have:=h k (by omega)
 rw [List.getD_eq_getElem?_getD,List.getD_eq_getElem?_getD,List.getElem?_eq_getElem h1,List.getElem?_eq_getElem h2] at this
 exact this
theorem eqH_mk {h g:Rs.Item} (e1:g.kind=h.kind) (e2:g.name=h.name) (e3:g.of_=h.of_) (e4:g.act=h.act) (e5:g.word=h.word) (e6:g.times=h.times) (e7:g.within=h.within) (e8:g.grace=h.grace) (e9:g.conds=h.conds) (e10:g.by_=h.by_) (e11:g.til=h.til) (e12:g.num=h.num) (e13:g.unit=h.unit) (e14:g.sum=h.sum) (e15:g.fin=h.fin) (e16:g.give=h.give) (e17:g.to_=h.to_) (e18:g.days=h.days) (e19:g.dates=h.dates) (e20:g.names=h.names):EqH h g:=by
 unfold EqH
 cases h
 cases g
 simp only at*
 subst e1 e2 e3 e4 e5 e6 e7 e8 e9 e10 e11 e12 e13 e14 e15 e16 e17 e18 e19 e20
 rfl
theorem span_mk {x y:Rs.Span} (h1:y.days=x.days) (h2:y.bus=x.bus) (h3:y.name=x.name):y=x:=by cases x;cases y;simp only at*;subst h1 h2 h3;rfl
theorem ratio_mk {x y:Rs.Ratio} (h1:y.num=x.num) (h2:y.den=x.den):y=x:=by cases x;cases y;simp only at*;subst h1 h2;rfl
theorem eqD_node (h h2:Rs.Item) (c d n i c2 d2 n2 i2:Value) (l l2:List DT):EqD (DT.node h c d n i l).tree (DT.node h2 c2 d2 n2 i2 l2).tree↔EqH h h2∧EqLs (l.map DT.tree) (l2.map DT.tree):=by
 rw [eqD_iff,DT.tree_h,DT.tree_h,DT.tree_l,DT.tree_l]
 exact Iff.rfl
theorem items_sayF (a b:List DT) (va vb:Value) (Ba Bb:Nat→Prop) (h7x: ∀x∈a,x.h.days.length=7) (h7y: ∀y∈b,y.h.days.length=7) (hE: ∀(j:Nat) (x y:DT),a[j]?=some x→b[j]?=some y→SayF x.l y.l x.i y.i Ba Bb):SayF a b va vb Ba Bb:=by
 intro w hA hB
 obtain ⟨A,ca,rfl,hc1,hc2⟩:=hA.slice
 obtain ⟨B,cb,rfl,hc3,hc4⟩:=hB.slice
 by_cases hlen:b.length=a.length
 case neg=>
  have HLEN:=hdd hlen
  have q:((a.length:Int) !=(b.length:Int))=true:=by rw [bne_iff_ne];omega
  clear hA hB hE hlen h7x h7y
  go_enter Tryz.func31,Tryz.ntmps31
  go_wp2_with fail
  go_ret
  refine ⟨⟨false,rfl,fun h=>(by cases h),fun hh=>?_⟩,Fr.refl _ _⟩
  have:=hh.1
  rw [List.length_map,List.length_map] at this
  exact absurd this HLEN.o
 rw [hlen] at hB ⊢
 have HA:=hdd hA;have HB:=hdd hB;have HE:=hdd hE;have HLEN:=hdd hlen;have H7X:=hdd h7x;have H7Y:=hdd h7y
 clear hA hB hE hlen hc3 hc4 h7x h7y
 have hzl:a.length≤9223372036854775807:=by omega
 go_enter Tryz.func31,Tryz.ntmps31
 go_wp2_with fail
 go_loopw [7] (fun i wr=> ∃j:Nat,i= .int .i64 j∧j≤a.length∧Hid (∀(k:Nat) (x y:DT),k<j→a[k]?=some x→b[k]?=some y→EqD x.tree y.tree)∧Hid (Fr (fun _=>False) w wr)) (fun i _=>a.length-(intOf i).toNat)
 case atStart=>exact ⟨0,rfl,Nat.zero_le _,hdd (fun k x y hk=>absurd hk (Nat.not_lt_zero _)),Fr.refl _ _⟩
 case round=>
  obtain ⟨j,rfl,hj,HPRE,HF⟩:=hrel
  have i1:(0:Int)≤(j:Int):=Int.natCast_nonneg _
  by_cases hlt:j<a.length
  ·have i2:(j:Int)<(a.length:Int):=by omega
   obtain ⟨x0,hx⟩: ∃x,a[j]?=some x:=⟨_,List.getElem?_eq_getElem hlt⟩
   obtain ⟨y0,hy⟩: ∃y,b[j]?=some y:=⟨_,List.getElem?_eq_getElem (by rw [HLEN.o];exact hlt)⟩
   have hsay:=HE.o j x0 y0 hx hy
   have HJX:=hdd hx;have HJY:=hdd hy
   have hno:EqLs (a.map DT.tree) (b.map DT.tree)→EqD x0.tree y0.tree:=fun hh=>((eqLs_dt a b).1 hh).2 j x0 y0 HJX.o HJY.o
   have h7a:=H7X.o x0 (List.mem_of_getElem? hx)
   have h7b:=H7Y.o y0 (List.mem_of_getElem? hy)
   have HAr:Hid (LayL Ba wr a (.slice A a.length ca)):=HA.o.fr HF.o (fun _ _ h=>h)
   have HBr:Hid (LayL Bb wr b (.slice B a.length cb)):=HB.o.fr HF.o (fun _ _ h=>h)
   obtain ⟨g1,o1,hA1,hg1,_,hat1⟩:=HAr.o.at hx
   obtain ⟨g2,o2,hB1,hg2,_,hat2⟩:=HBr.o.at hy
   subst hA1
   subst hB1
   have hlx:=HAr.o.lay x0 (List.mem_of_getElem? hx)
   have hly:=HBr.o.lay y0 (List.mem_of_getElem? hy)
   clear hx hy
   have HONEX:=hdd hlx.one
   have HONEY:=hdd hly.one
   have HITX:=hdd (jv4 x0);have HITY:=hdd (jv4 y0)
   obtain ⟨x,hxe⟩: ∃z,x0=z:=⟨_,rfl⟩
   obtain ⟨y,hye⟩: ∃z,y0=z:=⟨_,rfl⟩
   obtain ⟨h,cA,dA,nA,iA,lA⟩:=x0
   obtain ⟨h2,cB,dB,nB,iB,lB⟩:=y0
   have HSAY:Hid (SayF lA lB iA iB Ba Bb):=hsay
   have HNO:Hid (EqLs (a.map DT.tree) (b.map DT.tree)→EqH h h2∧EqLs (lA.map DT.tree) (lB.map DT.tree)):=fun hh=>(eqD_node _ _ _ _ _ _ _ _ _ _ _ _).1 (hno hh)
   have HMK:Hid (EqH h h2∧EqLs (lA.map DT.tree) (lB.map DT.tree)→EqD x.tree y.tree):=fun hh=>by rw [←hxe,←hye];exact (eqD_node _ _ _ _ _ _ _ _ _ _ _ _).2 hh
   have NO:Hid (EqLs (a.map DT.tree) (b.map DT.tree)→EqH h h2):=fun hh=>(HNO.o hh).1
   have H7A:Hid (h.days.length=7):=h7a
   have H7B:Hid (h2.days.length=7):=h7b
   clear hno h7a h7b
   have kc1:RowB Ba wr cA 2 (h.conds.map namedc):=hlx.conds
   have kd1:RowB Ba wr dA 3 (h.dates.map civilc):=hlx.dates
   have kn1:RowB Ba wr nA 1 (h.names.map fun x=> [sv x]):=hlx.names
   have HI1:Hid (LayL Ba wr lA iA):=hlx.items
   have kc2:RowB Bb wr cB 2 (h2.conds.map namedc):=hly.conds
   have kd2:RowB Bb wr dB 3 (h2.dates.map civilc):=hly.dates
   have kn2:RowB Bb wr nB 1 (h2.names.map fun x=> [sv x]):=hly.names
   have HI2:Hid (LayL Bb wr lB iB):=hly.items
   have KC1:=hdd kc1;have KD1:=hdd kd1;have KN1:=hdd kn1;have KC2:=hdd kc2;have KD2:=hdd kd2;have KN2:=hdd kn2
   have hat1:At wr g1 (o1+j*33) (icells h cA dA nA iA):=hat1
   have hat2:At wr g2 (o2+j*33) (icells h2 cB dB nB iB):=hat2
   have HONEX:Hid ((icells h cA dA nA iA).toArray.all (·.oneCell')=true):=HONEX.o
   have HONEY:Hid ((icells h2 cB dB nB iB).toArray.all (·.oneCell')=true):=HONEY.o
   have HITX:Hid ((Tryz.prog.info? 49).map (·.size)=some (icells h cA dA nA iA).length):=HITX.o
   have HITY:Hid ((Tryz.prog.info? 49).map (·.size)=some (icells h2 cB dB nB iB).length):=HITY.o
   have HAT1:=hdd hat1;have HAT2:=hdd hat2;have HG2:=hdd hg2
   have HLT:=hdd hlt
   clear hat1 hat2 hg1 hg2 hlt hlx hly hsay kc1 kd1 kn1 kc2 kd2 kn2 HAr HBr
   go_upto_region 6 with fail
   iterate 10 go_step
   refine wpList_load_mid rfl 49 _ rfl g1 (o1+j*33) rfl (icells h cA dA nA iA) _ HAT1.o Tryz.underlying49 rfl HITX.o ?_
   simp only [Act.put,List.setIfInBounds_toArray,List.set_cons_zero,List.set_cons_succ]
   iterate 3 go_step
   refine wpList_store_row rfl 49 _ _ rfl wr.heap.size (icells h cA dA nA iA).toArray rfl rfl 49 _ (jq2 rfl) HITX.o rfl HONEX.o ?_
   simp only [Act.put,List.setIfInBounds_toArray,List.set_cons_zero,List.set_cons_succ]
   rw [World.setRow_alloc_new]
   obtain ⟨u1,hu1⟩: ∃u,wr.alloc (.cells (icells h cA dA nA iA).toArray 49)=u:=⟨_,rfl⟩
   obtain ⟨q1,HQ1⟩: ∃q,Hid (wr.heap.size=q):=⟨_,rfl⟩
   rw [hu1,HQ1.o]
   have HX1:Hid (u1.heap[q1]?=some (.cells (icells h cA dA nA iA).toArray 49 (0,0))):=by rw [←hu1];exact jq2 HQ1.o.symm
   have HF1:Hid (Fr (fun _=>False) wr u1):=by rw [←hu1];exact (Fr.refl _ wr).alloc _
   have HAT3:Hid (At u1 g2 (o2+j*33) (icells h2 cB dB nB iB)):=fun k v hk=>by
    have h5:=HAT2.o k v hk
    have h6:=HF1.o.block g2 HG2.o (fun h=>h)
    unfold World.cell? at h5 ⊢
    simpa only [h6] using h5
   clear hu1 HAT1 HAT2
   go_upto_region 7 with fail
   iterate 10 go_step
   refine wpList_load_mid rfl 49 _ rfl g2 (o2+j*33) rfl (icells h2 cB dB nB iB) _ HAT3.o Tryz.underlying49 rfl HITY.o ?_
   simp only [Act.put,List.setIfInBounds_toArray,List.set_cons_zero,List.set_cons_succ]
   iterate 3 go_step
   refine wpList_store_row rfl 49 _ _ rfl u1.heap.size (icells h2 cB dB nB iB).toArray rfl rfl 49 _ (jq2 rfl) HITY.o rfl HONEY.o ?_
   simp only [Act.put,List.setIfInBounds_toArray,List.set_cons_zero,List.set_cons_succ]
   rw [World.setRow_alloc_new]
   obtain ⟨u2,hu2⟩: ∃u,u1.alloc (.cells (icells h2 cB dB nB iB).toArray 49)=u:=⟨_,rfl⟩
   obtain ⟨q2,HQ2⟩: ∃q,Hid (u1.heap.size=q):=⟨_,rfl⟩
   rw [hu2,HQ2.o]
   have HX:Hid (u2.heap[q1]?=some (.cells (icells h cA dA nA iA).toArray 49 (0,0))):=by rw [←hu2];exact jx1 HX1.o _
   have HY:Hid (u2.heap[q2]?=some (.cells (icells h2 cB dB nB iB).toArray 49 (0,0))):=by rw [←hu2];exact jq2 HQ2.o.symm
   have HF2:Hid (Fr (fun _=>False) wr u2):=by rw [←hu2];exact HF1.o.alloc _
   clear hu2 HX1 HF1 HAT3
   go_upto_region 8 with fail
   have cx:=jq0 HX.o
   have cy:=jq0 HY.o
   refine its_r8 (by kernel_rfl) (cx 0) (cy 0) (cx 1) (cy 1) (cx 3) (cy 3) (cx 4) (cy 4) (cx 5) (cy 5) (cx 6) (cy 6) (cx 7) (cy 7) (cx 8) (cy 8) (cx 9) (cy 9) (cx 10) (cy 10) (cx 11) (cy 11) (cx 12) (cy 12) ?_
   intro wx hwx r8 hr8
   intros
   subst hwx
   clear cx cy
   have HR8:Hid (r8=false↔h2.kind=h.kind∧(⟨h2.name.toArray⟩:ByteArray)=(⟨h.name.toArray⟩:ByteArray)∧(⟨h2.of_.toArray⟩:ByteArray)=(⟨h.of_.toArray⟩:ByteArray)∧(⟨h2.act.toArray⟩:ByteArray)=(⟨h.act.toArray⟩:ByteArray)∧h2.word=h.word∧h2.times=h.times∧h2.within.days=h.within.days∧h2.within.bus=h.within.bus∧(⟨h2.within.name.toArray⟩:ByteArray)=(⟨h.within.name.toArray⟩:ByteArray)∧h2.grace.days=h.grace.days∧h2.grace.bus=h.grace.bus∧(⟨h2.grace.name.toArray⟩:ByteArray)=(⟨h.grace.name.toArray⟩:ByteArray)):=hr8
   clear hr8
   cases r8 with
   |true=>
    go_wp2_with fail
    go_ret
    refine ⟨⟨false,rfl,fun h=>(by cases h),fun hh=>?_⟩,HF.o.trans HF2.o⟩
    have hE:h2= {h with pos:=h2.pos}:=NO.o hh
    have h9:=HR8.o.2 (by rw [hE];exact ⟨rfl,rfl,rfl,rfl,rfl,rfl,rfl,rfl,rfl,rfl,rfl,rfl⟩)
    cases h9
   |false=>
   have HE8:=hdd (HR8.o.1 rfl)
   clear HR8
   go_upto_region 10 with fail
   have cx:=jq0 HX.o
   have cy:=jq0 HY.o
   refine its_r10 (by kernel_rfl) (cx 14) (cy 14) (cx 15) (cy 15) (cx 16) (cy 16) (cx 17) (cy 17) (cx 18) (cy 18) (cx 19) (cy 19) (cx 20) (cy 20) (cx 21) (cy 21) (cx 22) (cy 22) (cx 23) (cy 23) (cx 24) (cy 24) (cx 25) (cy 25) (cx 26) (cy 26) (cx 27) (cy 27) (cx 28) (cy 28) (cx 29) (cy 29) HX.o HY.o HITX.o HITY.o rfl rfl (lists_say h h2 cA dA nA iA cB dB nB iB u2 Ba Bb (KC1.o.fr HF2.o (fun _ _ h=>h)) (KD1.o.fr HF2.o (fun _ _ h=>h)) (KN1.o.fr HF2.o (fun _ _ h=>h)) (KC2.o.fr HF2.o (fun _ _ h=>h)) (KD2.o.fr HF2.o (fun _ _ h=>h)) (KN2.o.fr HF2.o (fun _ _ h=>h))) (fun w hf=>HSAY.o w (HI1.o.fr (HF2.o.trans hf) (fun _ _ h=>h)) (HI2.o.fr (HF2.o.trans hf) (fun _ _ h=>h))) ?_
   intro wx hwx r10 hr10
   intros
   clear cx cy
   have HF4:Hid (Fr (fun _=>False) wr wx):=HF2.o.trans hwx
   have HR10:Hid (r10=false↔(⟨h2.by_.toArray⟩:ByteArray)=(⟨h.by_.toArray⟩:ByteArray)∧(⟨h2.til.toArray⟩:ByteArray)=(⟨h.til.toArray⟩:ByteArray)∧h2.num.num=h.num.num∧h2.num.den=h.num.den∧(⟨h2.unit.toArray⟩:ByteArray)=(⟨h.unit.toArray⟩:ByteArray)∧(⟨h2.sum.toArray⟩:ByteArray)=(⟨h.sum.toArray⟩:ByteArray)∧h2.fin=h.fin∧(⟨h2.give.toArray⟩:ByteArray)=(⟨h.give.toArray⟩:ByteArray)∧(⟨h2.to_.toArray⟩:ByteArray)=(⟨h.to_.toArray⟩:ByteArray)∧h2.days.getD 0 false=h.days.getD 0 false∧h2.days.getD 1 false=h.days.getD 1 false∧h2.days.getD 2 false=h.days.getD 2 false∧h2.days.getD 3 false=h.days.getD 3 false∧h2.days.getD 4 false=h.days.getD 4 false∧h2.days.getD 5 false=h.days.getD 5 false∧h2.days.getD 6 false=h.days.getD 6 false∧(h2.conds=h.conds∧h2.dates=h.dates∧h2.names=h.names)∧EqLs (lA.map DT.tree) (lB.map DT.tree)):=hr10
   clear hr10 hwx
   cases r10 with
   |true=>
    go_wp2_with fail
    go_ret
    refine ⟨⟨false,rfl,fun h=>(by cases h),fun hh=>?_⟩,HF.o.trans HF4.o⟩
    have hE:h2= {h with pos:=h2.pos}:=NO.o hh
    have hL:=(HNO.o hh).2
    have h9:=HR10.o.2 (by rw [hE];exact ⟨rfl,rfl,rfl,rfl,rfl,rfl,rfl,rfl,rfl,rfl,rfl,rfl,rfl,rfl,rfl,rfl,⟨rfl,rfl,rfl⟩,hL⟩)
    cases h9
   |false=>
   have HEQ:Hid (EqD x.tree y.tree):=HMK.o ⟨by
    obtain ⟨e0,e1,e3,e4,e5,e6,e7,e8,e9,e10,e11,e12⟩:=HE8.o
    obtain ⟨e14,e15,e16,e17,e18,e19,e20,e21,e22,e23,e24,e25,e26,e27,e28,e29,⟨l1,l2,l3⟩,_⟩:=HR10.o.1 rfl
    exact eqH_mk e0 (kx2 e1) (kx2 e3) (kx2 e4) e5 e6 (span_mk e7 e8 (kx2 e9)) (span_mk e10 e11 (kx2 e12)) l1 (kx2 e14) (kx2 e15) (ratio_mk e16 e17) (kx2 e18) (kx2 e19) e20 (kx2 e21) (kx2 e22) (days_ext H7A.o H7B.o (fun k hk=>by
     have h7:k=0∨k=1∨k=2∨k=3∨k=4∨k=5∨k=6:=by omega
     rcases h7 with rfl|rfl|rfl|rfl|rfl|rfl|rfl<;>assumption)) l2 l3,(HR10.o.1 rfl).2.2.2.2.2.2.2.2.2.2.2.2.2.2.2.2.2⟩
   clear HR10 HE8
   go_wp2_with fail
   go_roundw
   case rel=>exact ⟨j+1,by go_num,HLT.o,hdd (fun k u v hk hu hv=>by
    rcases Nat.lt_succ_iff_lt_or_eq.1 hk with h9|rfl
    ·exact HPRE.o k u v h9 hu hv
    ·have e1:=Option.some.inj (hu.symm.trans HJX.o)
     have e2:=Option.some.inj (hv.symm.trans HJY.o)
     rw [e1,e2,hxe,hye]
     exact HEQ.o),HF.o.trans HF4.o⟩
   case measure=>have:=HLT.o;simp [intOf];omega
  ·obtain rfl:j=a.length:=by omega
   go_wp2_with fail
   go_ret
   refine ⟨⟨true,rfl,fun _=>(eqLs_dt a b).2 ⟨HLEN.o,fun k x y hx hy=>HPRE.o k x y (List.getElem?_eq_some_iff.1 hx).1 hx hy⟩,fun _=>rfl⟩,HF.o⟩
theorem say_all: ∀(n:Nat) (a b:List DT) (va vb:Value) (Ba Bb:Nat→Prop),tsz a≤n→(∀x∈a,Bk x)→(∀y∈b,Bk y)→SayF a b va vb Ba Bb:=by
 intro n
 induction n using Nat.strongRecOn with
 |ind n ih=>
  intro a b va vb Ba Bb hn ha hb
  exact items_sayF a b va vb Ba Bb (fun x hx=>(ha x hx).one.days) (fun y hy=>(hb y hy).one.days) (fun j x y hx hy=>ih (tsz x.l) (Nat.lt_of_lt_of_le (Ic.tsz_lt (List.mem_of_getElem? hx)) hn) x.l y.l _ _ Ba Bb (Nat.le_refl _) (ha x (List.mem_of_getElem? hx)).inner (hb y (List.mem_of_getElem? hy)).inner)
theorem eq_civil2 {x y:Rs.Civil} (h: ¬y=x) (W:World):(binOp .eql 23 (.agg #[.int .i64 x.y,.int .i64 x.m,.int .i64 x.d]) (.agg #[.int .i64 y.y,.int .i64 y.m,.int .i64 y.d])).run Tryz.prog W= .ok (.bool false) W:=by
 have H:=hdd h
 clear h
 obtain ⟨a,b,e⟩:=x
 obtain ⟨c,d,f⟩:=y
 go_simp
 intro h1 h2 h3
 exact H.o (by rw [h1,h2,h3])
theorem bytes_ne' {a b:ByteArray} (h: ¬b=a):(a.toList==b.toList)=false:=by
 have:=kv6 h
 simpa using this
theorem same_say (s t:Ic.Src) (a b:List DT) (va vb:Value) (w:World) (Ba Bb:Nat→Prop) (hS:SayF a b va vb Ba Bb) (hA:LayL Ba w a va) (hB:LayL Bb w b vb):
  Calls Tryz.prog 14 #[.agg (scells s.name s.frm s.days va).toArray,.agg (scells t.name t.frm t.days vb).toArray,.bool false] w fun e w'=>(∃r:Bool,e= .returned (.bool r)∧(r=true↔t.name=s.name∧t.frm=s.frm∧t.days=s.days∧EqLs (a.map DT.tree) (b.map DT.tree)))∧Fr (fun _=>False) w w':=by
 obtain ⟨w0,HW0⟩: ∃w0,Hid ((w.alloc (.cells (scells s.name s.frm s.days va).toArray 26)).alloc (.cells (scells t.name t.frm t.days vb).toArray 26)=w0):=⟨_,rfl⟩
 have HF0:Hid (Fr (fun _=>False) w w0):=by rw [←HW0.o];exact ((Fr.refl _ w).alloc _).alloc _
 have Hx:Hid (w0.heap[w.heap.size]?=some (.cells (scells s.name s.frm s.days va).toArray 26 (0,0))):=by rw [←HW0.o];exact jx1 (jq2 rfl) _
 have Hy:Hid (w0.heap[w.heap.size+1]?=some (.cells (scells t.name t.frm t.days vb).toArray 26 (0,0))):=by rw [←HW0.o];exact jq2 (by simp)
 have HI:=hdd (hS w0 (hA.fr HF0.o (fun _ _ h=>h)) (hB.fr HF0.o (fun _ _ h=>h)))
 obtain ⟨A,ca,rfl,_,_⟩:=hA.slice
 obtain ⟨B,cb,rfl,_,_⟩:=hB.slice
 have x0:w0.cell? ⟨w.heap.size,0,none⟩=some (.string ⟨s.name.toArray⟩):=(jq0 Hx.o 0).trans rfl
 have y0:w0.cell? ⟨w.heap.size+1,0,none⟩=some (.string ⟨t.name.toArray⟩):=(jq0 Hy.o 0).trans rfl
 clear hA hB hS
 by_cases he:t.name=s.name
 case neg=>
  have HE:=hdd he
  have q:((⟨s.name.toArray⟩:ByteArray).toList==(⟨t.name.toArray⟩:ByteArray).toList)=false:=bytes_ne' (fun e=>he (kx2 e))
  clear he
  generalize (⟨s.name.toArray⟩:ByteArray)=z1 at*
  generalize (⟨t.name.toArray⟩:ByteArray)=z2 at*
  go_enter Tryz.func14,Tryz.ntmps14
  go_upto_region 1 with fail
  rw [HW0.o]
  clear HW0
  go_wp2_with fail
  go_ret
  exact ⟨⟨false,rfl,fun h=>(by cases h),fun hh=>absurd hh.1 HE.o⟩,HF0.o⟩
 have HN:=hdd he
 rw [he] at y0
 clear he
 have x1:w0.cell? ⟨w.heap.size,1,none⟩=some (.int .i64 s.frm.y):=(jq0 Hx.o 1).trans rfl
 have x2:w0.cell? ⟨w.heap.size,2,none⟩=some (.int .i64 s.frm.m):=(jq0 Hx.o 2).trans rfl
 have x3:w0.cell? ⟨w.heap.size,3,none⟩=some (.int .i64 s.frm.d):=(jq0 Hx.o 3).trans rfl
 have y1:w0.cell? ⟨w.heap.size+1,1,none⟩=some (.int .i64 t.frm.y):=(jq0 Hy.o 1).trans rfl
 have y2:w0.cell? ⟨w.heap.size+1,2,none⟩=some (.int .i64 t.frm.m):=(jq0 Hy.o 2).trans rfl
 have y3:w0.cell? ⟨w.heap.size+1,3,none⟩=some (.int .i64 t.frm.d):=(jq0 Hy.o 3).trans rfl
 by_cases he:t.frm=s.frm
 case neg=>
  have HE:=hdd he
  have q:=eq_civil2 he
  clear he
  go_enter Tryz.func14,Tryz.ntmps14
  go_upto_region 1 with fail
  rw [HW0.o]
  clear HW0
  go_wp2_with fail
  go_ret
  exact ⟨⟨false,rfl,fun h=>(by cases h),fun hh=>absurd hh.2.1 HE.o⟩,HF0.o⟩
 have HM:=hdd he
 rw [he] at y1 y2 y3
 clear he
 have n1:=eq_civil s.frm.y s.frm.m s.frm.d
 have x4:w0.cell? ⟨w.heap.size,4,none⟩=some (.int .i64 s.days):=(jq0 Hx.o 4).trans rfl
 have y4:w0.cell? ⟨w.heap.size+1,4,none⟩=some (.int .i64 t.days):=(jq0 Hy.o 4).trans rfl
 by_cases he:t.days=s.days
 case neg=>
  have HE:=hdd he
  have q:(s.days==t.days)=false:=beq_eq_false_iff_ne.2 (fun e=>he e.symm)
  clear he
  go_enter Tryz.func14,Tryz.ntmps14
  go_upto_region 1 with fail
  rw [HW0.o]
  clear HW0
  go_wp2_with fail
  go_ret
  exact ⟨⟨false,rfl,fun h=>(by cases h),fun hh=>absurd hh.2.2.1 HE.o⟩,HF0.o⟩
 have HD:=hdd he
 rw [he] at y4
 clear he
 have x5:w0.cell? ⟨w.heap.size,5,none⟩=some (.slice A a.length ca):=(jq0 Hx.o 5).trans rfl
 have y5:w0.cell? ⟨w.heap.size+1,5,none⟩=some (.slice B b.length cb):=(jq0 Hy.o 5).trans rfl
 go_enter Tryz.func14,Tryz.ntmps14
 go_upto_region 1 with fail
 rw [HW0.o]
 clear HW0
 go_wp2_with fail
 refine HI.o.mono ?_
 rintro e w4 ⟨⟨r,rfl,hr⟩,hf4⟩
 have HF4:=hdd hf4
 have HR:=hdd hr
 clear hf4 hr
 go_wp2_with fail
 go_ret
 exact ⟨⟨r,rfl,fun h=>⟨HN.o,HM.o,HD.o,HR.o.1 h⟩,fun hh=>HR.o.2 hh.2.2.2⟩,HF0.o.trans HF4.o⟩
end Go.Proofs.YtfficindoecpfaaGreatDoor.Pt
