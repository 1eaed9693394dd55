/-
  What the functions strings, lists, Items and Same of package estoppelref07 return for equal trees.
-/
import Derived.Test.YtfaflipphkoiiaaDoorPkParD
import Derived.Deep.Cut
import Derived.Laws.StructEq
set_option maxHeartbeats 64000000
set_option maxRecDepth 100000
set_option linter.unusedVariables false
namespace Go.Proofs.YtfaflipphkoiiaaDoor.Pr
open Go.RowKit Mem
open Lx (Tok bs jx7)
theorem ne_span (d:Int) (b:Bool) (n:ByteArray) (W:World):(binOp .neq 49 (.agg #[.int .i64 d,.bool b,.string n]) (.agg #[.int .i64 d,.bool b,.string n])).run Tryd.prog W= .ok (.bool false) W:=by
 go_simp
theorem ne_ratio (d e:Int) (W:World):(binOp .neq 52 (.agg #[.int .i64 d,.int .i64 e]) (.agg #[.int .i64 d,.int .i64 e])).run Tryd.prog W= .ok (.bool false) W:=by
 go_simp
theorem ne_civil (d e f:Int) (W:World):(binOp .neq 24 (.agg #[.int .i64 d,.int .i64 e,.int .i64 f]) (.agg #[.int .i64 d,.int .i64 e,.int .i64 f])).run Tryd.prog W= .ok (.bool false) W:=by
 go_simp
theorem ne_named (n:ByteArray) (d:Int) (W:World):(binOp .neq 59 (.agg #[.string n,.int .i64 d]) (.agg #[.string n,.int .i64 d])).run Tryd.prog W= .ok (.bool false) W:=by
 go_simp
theorem ne_days (a b c d e f g:Bool) (W:World):(binOp .neq 53 (.agg #[.bool a,.bool b,.bool c,.bool d,.bool e,.bool f,.bool g]) (.agg #[.bool a,.bool b,.bool c,.bool d,.bool e,.bool f,.bool g])).run Tryd.prog W= .ok (.bool false) W:=by
 cases a<;>cases b<;>cases c<;>cases d<;>cases e<;>cases f<;>cases g<;>kernel_rfl
theorem strings_true (xs:List Bytes) (va vb:Value) (w:World) (ha:Row w va 1 (xs.map fun x=> [sv x])) (hb:Row w vb 1 (xs.map fun x=> [sv x])):
  Calls Tryd.prog 56 #[va,vb] w fun e w'=>e= .returned (.bool true)∧ ∃m,w'=w.drewN m:=by
 have hlen:=ha.len
 rw [List.length_map] at hlen
 obtain ⟨A,ca,rfl,hca,ha⟩:=ha
 obtain ⟨B,cb,rfl,hcb,hb⟩:=hb
 rw [List.length_map] at*
 have HA:=hdd ha;clear ha
 have HB:=hdd hb;clear hb
 go_enter Tryd.func56,Tryd.ntmps56
 go_wp2_with fail
 go_loopw [5] (fun i wr=> ∃(j m:Nat),i= .int .i64 j∧j≤xs.length∧wr=w.drewN m) (fun i _=>xs.length-(intOf i).toNat)
 case atStart=>exact ⟨0,0,rfl,by omega,rfl⟩
 case round=>
  obtain ⟨j,m,rfl,hj,rfl⟩:=hrel
  by_cases hlt:j<xs.length
  ·have hne:(xs.map fun x=> [sv x])≠ []:=by intro e;rw [List.map_eq_nil_iff] at e;rw [e] at hlt;simp at hlt
   obtain ⟨g,o,rfl,hg,hr⟩:=HA.o.resolve_left hne
   obtain ⟨g',o',rfl,hg',hr'⟩:=HB.o.resolve_left hne
   have c1:w.cell? ⟨g,o+j,none⟩=some (.string ⟨xs[j].toArray⟩):=by have:=hr j [sv xs[j]] (by simp [hlt]) 0 _ rfl;simpa [sv] using this
   have c2:w.cell? ⟨g',o'+j,none⟩=some (.string ⟨xs[j].toArray⟩):=by have:=hr' j [sv xs[j]] (by simp [hlt]) 0 _ rfl;simpa [sv] using this
   clear hr hr'
   generalize (⟨xs[j].toArray⟩:ByteArray)=y at*
   go_wp2_with fail
   go_quiet (fail)
   go_wp2_with fail
   go_roundw
   case rel=>exact ⟨j+1,m+nq,by go_num,by omega,rfl⟩
   case measure=>simp [intOf];omega
  ·go_wp2_with fail
   go_ret
   exact ⟨rfl,m,rfl⟩
theorem lists_true (f g:Flat) (sc sd sn si tc td tn ti:Value) (hsi:IsSlice si) (hti:IsSlice ti) (w:World) (hf:VFlat w f sc sd sn) (hg:VFlat w g tc td tn) (e1:g.conds=f.conds) (e2:g.dates=f.dates) (e3:g.names=f.names):
  Calls Tryd.prog 31 #[.agg (icells f sc sd sn si).toArray,.agg (icells g tc td tn ti).toArray] w fun e w'=>e= .returned (.bool true)∧Below w.heap.size w w':=by
 obtain ⟨hf1,hf2,hf3⟩:=hf
 obtain ⟨hg1,hg2,hg3⟩:=hg
 rw [e1] at hg1
 rw [e2] at hg2
 rw [e3] at hg3
 clear e1 e2 e3
 go_enter Tryd.func31,Tryd.ntmps31
 go_upto_region 1 with fail
 have HB2:Hid (Below w.heap.size w ((w.alloc (.cells (icells f sc sd sn si).toArray 57)).alloc (.cells (icells g tc td tn ti).toArray 57))):=(((Below.refl _ w).alloc (Nat.le_refl _) _).alloc (by simp) _)
 have HI1:Hid (IB w.heap.size f sc sd sn si ((w.alloc (.cells (icells f sc sd sn si).toArray 57)).alloc (.cells (icells g tc td tn ti).toArray 57))):=jq9 (jq5 rfl) _
 have HI2:Hid (IB (w.heap.size+1) g tc td tn ti ((w.alloc (.cells (icells f sc sd sn si).toArray 57)).alloc (.cells (icells g tc td tn ti).toArray 57))):=jq5 (by simp)
 generalize ((w.alloc (.cells (icells f sc sd sn si).toArray 57)).alloc (.cells (icells g tc td tn ti).toArray 57))=u at*
 have hf1:=hf1.below HB2.o
 have hf2:=hf2.below HB2.o
 have HF3:=hdd (hf3.below HB2.o)
 have hg1:=hg1.below HB2.o
 have hg2:=hg2.below HB2.o
 have HG3:=hdd (hg3.below HB2.o)
 have hl1:=hf1.len
 have hl2:=hf2.len
 obtain ⟨A1,ca1,rfl,_,hf1⟩:=hf1
 obtain ⟨A2,ca2,rfl,_,hf2⟩:=hf2
 obtain ⟨B1,cb1,rfl,_,hg1⟩:=hg1
 obtain ⟨B2,cb2,rfl,_,hg2⟩:=hg2
 simp only [List.length_map] at HI1 HI2 hl1 hl2 ⊢
 have HF1:=hdd hf1;have HF2:=hdd hf2;have HG1:=hdd hg1;have HG2:=hdd hg2
 clear hf1 hf2 hg1 hg2 hf3 hg3
 have x13:u.cell? ⟨w.heap.size,13,none⟩=some (.slice A1 f.conds.length ca1):=jq0 HI1.o 13
 have y13:u.cell? ⟨w.heap.size+1,13,none⟩=some (.slice B1 f.conds.length cb1):=jq0 HI2.o 13
 have x30:u.cell? ⟨w.heap.size,30,none⟩=some (.slice A2 f.dates.length ca2):=jq0 HI1.o 30
 have y30:u.cell? ⟨w.heap.size+1,30,none⟩=some (.slice B2 f.dates.length cb2):=jq0 HI2.o 30
 have x31:u.cell? ⟨w.heap.size,31,none⟩=some sn:=jq0 HI1.o 31
 have y31:u.cell? ⟨w.heap.size+1,31,none⟩=some tn:=jq0 HI2.o 31
 clear HI1 HI2
 go_wp2_with fail
 go_loopw [5] (fun i wr=> ∃(j m:Nat),i= .int .i64 j∧j≤f.conds.length∧wr=u.drewN m) (fun i _=>f.conds.length-(intOf i).toNat)
 case atStart=>exact ⟨0,0,rfl,by omega,rfl⟩
 case round=>
  obtain ⟨j,m,rfl,hj,rfl⟩:=hrel
  by_cases hlt:j<f.conds.length
  ·have hne:f.conds.map cval≠ []:=by intro e;rw [List.map_eq_nil_iff] at e;rw [e] at hlt;simp at hlt
   obtain ⟨g1,o1,rfl,hg1,hr⟩:=HF1.o.resolve_left hne
   obtain ⟨g2,o2,rfl,hg2,hr'⟩:=HG1.o.resolve_left hne
   have hr:=hr j (cval f.conds[j]) (by simp [hlt])
   have hr':=hr' j (cval f.conds[j]) (by simp [hlt])
   have c1:u.cell? ⟨g1,o1+j*2,none⟩=some (.string ⟨f.conds[j].name.toArray⟩):=hr 0 _ rfl
   have c2:u.cell? ⟨g1,o1+j*2+1,none⟩=some (.int .i64 (f.conds[j].is_:Int)):=hr 1 _ rfl
   have c3:u.cell? ⟨g2,o2+j*2,none⟩=some (.string ⟨f.conds[j].name.toArray⟩):=hr' 0 _ rfl
   have c4:u.cell? ⟨g2,o2+j*2+1,none⟩=some (.int .i64 (f.conds[j].is_:Int)):=hr' 1 _ rfl
   clear hr hr'
   have hnn:=ne_named ⟨f.conds[j].name.toArray⟩ (f.conds[j].is_:Int)
   generalize (⟨f.conds[j].name.toArray⟩:ByteArray)=y at*
   generalize (f.conds[j].is_:Int)=z at*
   go_wp2_with fail
   go_quiet (fail)
   go_wp2_with fail
   go_roundw
   case rel=>exact ⟨j+1,m+nq,by go_num,by omega,rfl⟩
   case measure=>simp [intOf];omega
  ·clear HF1 HG1
   have dn:decide ((j:Int)<(f.conds.length:Int))=false:=by simp;omega
   go_wp2_with fail
   go_loopw [6] (fun i wr=> ∃(j m:Nat),i= .int .i64 j∧j≤f.dates.length∧wr=u.drewN m) (fun i _=>f.dates.length-(intOf i).toNat)
   case atStart=>exact ⟨0,m,rfl,by omega,rfl⟩
   case round=>
    obtain ⟨j,m,rfl,hj,rfl⟩:=hrel
    by_cases hlt:j<f.dates.length
    ·have hne:f.dates.map dval≠ []:=by intro e;rw [List.map_eq_nil_iff] at e;rw [e] at hlt;simp at hlt
     obtain ⟨g1,o1,rfl,hg1,hr⟩:=HF2.o.resolve_left hne
     obtain ⟨g2,o2,rfl,hg2,hr'⟩:=HG2.o.resolve_left hne
     have hr:=hr j (dval f.dates[j]) (by simp [hlt])
     have hr':=hr' j (dval f.dates[j]) (by simp [hlt])
     have c1:u.cell? ⟨g1,o1+j*3,none⟩=some (.int .i64 (f.dates[j].y:Int)):=hr 0 _ rfl
     have c2:u.cell? ⟨g1,o1+j*3+1,none⟩=some (.int .i64 (f.dates[j].m:Int)):=hr 1 _ rfl
     have c3:u.cell? ⟨g1,o1+j*3+2,none⟩=some (.int .i64 (f.dates[j].d:Int)):=hr 2 _ rfl
     have c4:u.cell? ⟨g2,o2+j*3,none⟩=some (.int .i64 (f.dates[j].y:Int)):=hr' 0 _ rfl
     have c5:u.cell? ⟨g2,o2+j*3+1,none⟩=some (.int .i64 (f.dates[j].m:Int)):=hr' 1 _ rfl
     have c6:u.cell? ⟨g2,o2+j*3+2,none⟩=some (.int .i64 (f.dates[j].d:Int)):=hr' 2 _ rfl
     clear hr hr'
     have hnn:=ne_civil (f.dates[j].y:Int) (f.dates[j].m:Int) (f.dates[j].d:Int)
     generalize (f.dates[j].y:Int)=y1 at*
     generalize (f.dates[j].m:Int)=y2 at*
     generalize (f.dates[j].d:Int)=y3 at*
     go_wp2_with fail
     go_quiet (fail)
     go_wp2_with fail
     go_roundw
     case rel=>exact ⟨j+1,m+nq,by go_num,by omega,rfl⟩
     case measure=>simp [intOf];omega
    ·clear HF2 HG2
     go_wp2_with fail
     refine (strings_true f.names sn tn _ (HF3.o.below (below_drewN (Below.refl _ _) m)) (HG3.o.below (below_drewN (Below.refl _ _) m))).mono ?_
     rintro e w' ⟨rfl,m',rfl⟩
     go_wp2_with fail
     go_ret
     exact ⟨rfl,below_drewN HB2.o _⟩
end Go.Proofs.YtfaflipphkoiiaaDoor.Pr
