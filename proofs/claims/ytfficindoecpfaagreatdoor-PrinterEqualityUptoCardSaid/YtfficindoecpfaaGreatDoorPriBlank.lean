/-
  The printer's isBlank.
-/
import Derived.Test.YtfficindoecpfaaGreatDoorPriDuty
set_option maxHeartbeats 64000000
set_option maxRecDepth 100000
set_option linter.unusedVariables false
set_option linter.unusedSimpArgs false
namespace Go.Proofs.YtfficindoecpfaaGreatDoor.Pt
open Go.RowKit Mem Vw
theorem eql_span (x:Rs.Span) (hx:x≠span0) (W:World):(binOp .eql 41 (.agg #[.int .i64 x.days,.bool x.bus,.string ⟨x.name.toArray⟩]) (.agg #[.int .i64 0,.bool false,.string ⟨#[]⟩])).run Tryz.prog W= .ok (.bool false) W:=by
 obtain ⟨a,b,n⟩:=x
 dsimp only
 by_cases ha:a=0
 ·subst ha
  cases b with
  |true=>go_simp
  |false=>
   have hn:n≠ []:=fun e=>hx (by rw [e];rfl)
   have hq:(n== [])=false:=by simpa using hn
   go_simp
 ·have hq:(a==0)=false:=beq_eq_false_iff_ne.2 ha
  go_simp
theorem eql_ratio (x:Rs.Ratio) (hx:x≠⟨0,0⟩) (W:World):(binOp .eql 44 (.agg #[.int .i64 x.num,.int .i64 x.den]) (.agg #[.int .i64 0,.int .i64 0])).run Tryz.prog W= .ok (.bool false) W:=by
 obtain ⟨a,b⟩:=x
 dsimp only
 by_cases ha:a=0
 ·subst ha
  have hb:b≠0:=fun e=>hx (by rw [e])
  have hq:(b==0)=false:=beq_eq_false_iff_ne.2 hb
  go_simp
 ·have hq:(a==0)=false:=beq_eq_false_iff_ne.2 ha
  go_simp
def week7 (l:List Bool):Bool:=!(l.getD 0 false||l.getD 1 false||l.getD 2 false||l.getD 3 false||l.getD 4 false||l.getD 5 false||l.getD 6 false)
theorem week7_iff {l:List Bool} (h:l.length=7):l=week0↔week7 l=true:=by
 match l,h with
 | [a,b,c,d,e,f,g],_=>cases a<;>cases b<;>cases c<;>cases d<;>cases e<;>cases f<;>cases g<;>decide
theorem eql_days (a b c d e f g:Bool) (W:World):(binOp .eql 45 (.agg #[.bool a,.bool b,.bool c,.bool d,.bool e,.bool f,.bool g]) (.agg #[.bool false,.bool false,.bool false,.bool false,.bool false,.bool false,.bool false])).run Tryz.prog W= .ok (.bool (!(a||b||c||d||e||f||g))) W:=by
 cases a<;>cases b<;>cases c<;>cases d<;>cases e<;>cases f<;>cases g<;>kernel_rfl
theorem isBlank_any (h:Rs.Item) (c d n l:Value) (m:Nat) (w:World) (hc: ∃A q,c= .slice A h.conds.length q) (hd: ∃A q,d= .slice A h.dates.length q) (hn: ∃A q,n= .slice A h.names.length q) (hl: ∃A q,l= .slice A m q) (hdl:h.days.length=7) (hcl:h.conds.length≤9223372036854775807) (hdt:h.dates.length≤9223372036854775807) (hnl:h.names.length≤9223372036854775807) (hml:m≤9223372036854775807):
  Calls Tryz.prog 87 #[.agg (Rs.icells h c d n l).toArray] w fun e w'=>e= .returned (.bool (decide (blank h∧m=0)))∧Fr (fun _=>False) w w':=by
 obtain ⟨A13,k13,rfl⟩:=hc
 obtain ⟨A30,k30,rfl⟩:=hd
 obtain ⟨A31,k31,rfl⟩:=hn
 obtain ⟨A32,k32,rfl⟩:=hl
 obtain ⟨w0,hw0⟩: ∃u,w.alloc (.cells (Rs.icells h (.slice A13 h.conds.length k13) (.slice A30 h.dates.length k30) (.slice A31 h.names.length k31) (.slice A32 m k32)).toArray 49)=u:=⟨_,rfl⟩
 obtain ⟨i,HII⟩: ∃q,Hid (w.heap.size=q):=⟨_,rfl⟩
 have hf0:Fr (fun _=>False) w w0:=by rw [←hw0];exact (Fr.refl _ w).alloc _
 have HB0:Hid (w0.heap[i]?=some (.cells (Rs.icells h (.slice A13 h.conds.length k13) (.slice A30 h.dates.length k30) (.slice A31 h.names.length k31) (.slice A32 m k32)).toArray 49 (0,0))):=by rw [←hw0];exact jq2 HII.o.symm
 have HF0:=hdd hf0
 have HW0:=hdd hw0
 have HDL:=hdd hdl
 clear hf0 hw0 hdl
 obtain ⟨V,HVV⟩: ∃V,Hid (decide (blank h∧m=0)=V):=⟨_,rfl⟩
 rw [HVV.o]
 go_enter Tryz.func87,Tryz.ntmps87
 go_upto_region 1 with fail
 rw [HW0.o,HII.o]
 clear HW0
 go_upto_region 2 with fail
 obtain ⟨gz,HGZ⟩: ∃q,Hid (w0.heap.size=q):=⟨_,rfl⟩
 obtain ⟨u,hu⟩: ∃u,w0.alloc (.cells #[.int .i64 0,.bool false,.string ⟨#[]⟩] 41)=u:=⟨_,rfl⟩
 rw [hu,HGZ.o]
 have HF:Hid (Fr (fun _=>False) w u):=by rw [←hu];exact HF0.o.alloc _
 have HZU:Hid (u.heap[gz]?=some (.cells #[.int .i64 0,.bool false,.string ⟨#[]⟩] 41 (0,0))):=by rw [←hu];exact jq2 HGZ.o.symm
 have HB:Hid (u.heap[i]?=some (.cells (Rs.icells h (.slice A13 h.conds.length k13) (.slice A30 h.dates.length k30) (.slice A31 h.names.length k31) (.slice A32 m k32)).toArray 49 (0,0))):=by rw [←hu];exact jx1 HB0.o _
 clear hu
 have z0:u.cell? ⟨gz,0,none⟩=some (.int .i64 0):=jq0 HZU.o 0
 have z1:u.cell? ⟨gz,1,none⟩=some (.bool false):=jq0 HZU.o 1
 have z2:u.cell? ⟨gz,2,none⟩=some (.string ⟨#[]⟩):=jq0 HZU.o 2
 obtain ⟨a0,HA0⟩: ∃z,Hid (h.days.getD 0 false=z):=⟨_,rfl⟩
 obtain ⟨a1,HA1⟩: ∃z,Hid (h.days.getD 1 false=z):=⟨_,rfl⟩
 obtain ⟨a2,HA2⟩: ∃z,Hid (h.days.getD 2 false=z):=⟨_,rfl⟩
 obtain ⟨a3,HA3⟩: ∃z,Hid (h.days.getD 3 false=z):=⟨_,rfl⟩
 obtain ⟨a4,HA4⟩: ∃z,Hid (h.days.getD 4 false=z):=⟨_,rfl⟩
 obtain ⟨a5,HA5⟩: ∃z,Hid (h.days.getD 5 false=z):=⟨_,rfl⟩
 obtain ⟨a6,HA6⟩: ∃z,Hid (h.days.getD 6 false=z):=⟨_,rfl⟩
 have c1:u.cell? ⟨i,1,none⟩=some (.string ⟨h.name.toArray⟩):=jq0 HB.o 1
 have c3:u.cell? ⟨i,3,none⟩=some (.string ⟨h.of_.toArray⟩):=jq0 HB.o 3
 have c4:u.cell? ⟨i,4,none⟩=some (.string ⟨h.act.toArray⟩):=jq0 HB.o 4
 have c5:u.cell? ⟨i,5,none⟩=some (.int .i64 h.word):=jq0 HB.o 5
 have c6:u.cell? ⟨i,6,none⟩=some (.int .i64 h.times):=jq0 HB.o 6
 have c7:u.cell? ⟨i,7,none⟩=some (.int .i64 h.within.days):=jq0 HB.o 7
 have c8:u.cell? ⟨i,8,none⟩=some (.bool h.within.bus):=jq0 HB.o 8
 have c9:u.cell? ⟨i,9,none⟩=some (.string ⟨h.within.name.toArray⟩):=jq0 HB.o 9
 have c10:u.cell? ⟨i,10,none⟩=some (.int .i64 h.grace.days):=jq0 HB.o 10
 have c11:u.cell? ⟨i,11,none⟩=some (.bool h.grace.bus):=jq0 HB.o 11
 have c12:u.cell? ⟨i,12,none⟩=some (.string ⟨h.grace.name.toArray⟩):=jq0 HB.o 12
 have c13:u.cell? ⟨i,13,none⟩=some (.slice A13 h.conds.length k13):=jq0 HB.o 13
 have c14:u.cell? ⟨i,14,none⟩=some (.string ⟨h.by_.toArray⟩):=jq0 HB.o 14
 have c15:u.cell? ⟨i,15,none⟩=some (.string ⟨h.til.toArray⟩):=jq0 HB.o 15
 have c16:u.cell? ⟨i,16,none⟩=some (.int .i64 h.num.num):=jq0 HB.o 16
 have c17:u.cell? ⟨i,17,none⟩=some (.int .i64 h.num.den):=jq0 HB.o 17
 have c18:u.cell? ⟨i,18,none⟩=some (.string ⟨h.unit.toArray⟩):=jq0 HB.o 18
 have c19:u.cell? ⟨i,19,none⟩=some (.string ⟨h.sum.toArray⟩):=jq0 HB.o 19
 have c20:u.cell? ⟨i,20,none⟩=some (.bool h.fin):=jq0 HB.o 20
 have c21:u.cell? ⟨i,21,none⟩=some (.string ⟨h.give.toArray⟩):=jq0 HB.o 21
 have c22:u.cell? ⟨i,22,none⟩=some (.string ⟨h.to_.toArray⟩):=jq0 HB.o 22
 have c23:u.cell? ⟨i,23,none⟩=some (.bool a0):=(jq0 HB.o 23).trans (by show some (Value.bool (h.days.getD 0 false))=_;rw [HA0.o])
 have c24:u.cell? ⟨i,24,none⟩=some (.bool a1):=(jq0 HB.o 24).trans (by show some (Value.bool (h.days.getD 1 false))=_;rw [HA1.o])
 have c25:u.cell? ⟨i,25,none⟩=some (.bool a2):=(jq0 HB.o 25).trans (by show some (Value.bool (h.days.getD 2 false))=_;rw [HA2.o])
 have c26:u.cell? ⟨i,26,none⟩=some (.bool a3):=(jq0 HB.o 26).trans (by show some (Value.bool (h.days.getD 3 false))=_;rw [HA3.o])
 have c27:u.cell? ⟨i,27,none⟩=some (.bool a4):=(jq0 HB.o 27).trans (by show some (Value.bool (h.days.getD 4 false))=_;rw [HA4.o])
 have c28:u.cell? ⟨i,28,none⟩=some (.bool a5):=(jq0 HB.o 28).trans (by show some (Value.bool (h.days.getD 5 false))=_;rw [HA5.o])
 have c29:u.cell? ⟨i,29,none⟩=some (.bool a6):=(jq0 HB.o 29).trans (by show some (Value.bool (h.days.getD 6 false))=_;rw [HA6.o])
 have c30:u.cell? ⟨i,30,none⟩=some (.slice A30 h.dates.length k30):=jq0 HB.o 30
 have c31:u.cell? ⟨i,31,none⟩=some (.slice A31 h.names.length k31):=jq0 HB.o 31
 have c32:u.cell? ⟨i,32,none⟩=some (.slice A32 m k32):=jq0 HB.o 32
 by_cases hq0:h.name= []
 case neg=>
  have HV:Hid (V=false):=HVV.o.symm.trans (decide_eq_false (fun ⟨⟨e0,e1,e2,e3,e4,e5,e6,e7,e8,e9,e10,e11,e12,e13,e14,e15,e16,e17,e18⟩,em⟩=>hq0 (e0)))
  have qb:(h.name== [])=false:=by simpa using hq0
  clear hq0
  go_wp2_with fail
  go_ret
  exact ⟨ret_bool HV.o.symm,HF.o⟩
 have HQ0:=hdd hq0
 rw [hq0] at c1
 clear hq0
 by_cases hq1:h.of_= []
 case neg=>
  have HV:Hid (V=false):=HVV.o.symm.trans (decide_eq_false (fun ⟨⟨e0,e1,e2,e3,e4,e5,e6,e7,e8,e9,e10,e11,e12,e13,e14,e15,e16,e17,e18⟩,em⟩=>hq1 (e1)))
  have qb:(h.of_== [])=false:=by simpa using hq1
  clear hq1
  go_wp2_with fail
  go_ret
  exact ⟨ret_bool HV.o.symm,HF.o⟩
 have HQ1:=hdd hq1
 rw [hq1] at c3
 clear hq1
 by_cases hq2:h.act= []
 case neg=>
  have HV:Hid (V=false):=HVV.o.symm.trans (decide_eq_false (fun ⟨⟨e0,e1,e2,e3,e4,e5,e6,e7,e8,e9,e10,e11,e12,e13,e14,e15,e16,e17,e18⟩,em⟩=>hq2 (e2)))
  have qb:(h.act== [])=false:=by simpa using hq2
  clear hq2
  go_wp2_with fail
  go_ret
  exact ⟨ret_bool HV.o.symm,HF.o⟩
 have HQ2:=hdd hq2
 rw [hq2] at c4
 clear hq2
 by_cases hq3:h.word=0
 case neg=>
  have HV:Hid (V=false):=HVV.o.symm.trans (decide_eq_false (fun ⟨⟨e0,e1,e2,e3,e4,e5,e6,e7,e8,e9,e10,e11,e12,e13,e14,e15,e16,e17,e18⟩,em⟩=>hq3 (e3)))
  have qb:(h.word==0)=false:=beq_eq_false_iff_ne.2 hq3
  clear hq3
  go_wp2_with fail
  go_ret
  exact ⟨ret_bool HV.o.symm,HF.o⟩
 have HQ3:=hdd hq3
 rw [hq3] at c5
 clear hq3
 by_cases hq4:h.times=0
 case neg=>
  have HV:Hid (V=false):=HVV.o.symm.trans (decide_eq_false (fun ⟨⟨e0,e1,e2,e3,e4,e5,e6,e7,e8,e9,e10,e11,e12,e13,e14,e15,e16,e17,e18⟩,em⟩=>hq4 (e4)))
  have qb:(h.times==0)=false:=beq_eq_false_iff_ne.2 hq4
  clear hq4
  go_wp2_with fail
  go_ret
  exact ⟨ret_bool HV.o.symm,HF.o⟩
 have HQ4:=hdd hq4
 rw [hq4] at c6
 clear hq4
 by_cases hq5:h.within=span0
 case neg=>
  have HV:Hid (V=false):=HVV.o.symm.trans (decide_eq_false (fun ⟨⟨e0,e1,e2,e3,e4,e5,e6,e7,e8,e9,e10,e11,e12,e13,e14,e15,e16,e17,e18⟩,em⟩=>hq5 (e5)))
  have qb:=eql_span h.within hq5
  clear hq5
  go_wp2_with fail
  go_ret
  exact ⟨ret_bool HV.o.symm,HF.o⟩
 have HQ5:=hdd hq5
 rw [hq5] at c7 c8 c9
 have c7:u.cell? ⟨i,7,none⟩=some (.int .i64 0):=c7
 have c8:u.cell? ⟨i,8,none⟩=some (.bool false):=c8
 have c9:u.cell? ⟨i,9,none⟩=some (.string ⟨#[]⟩):=c9
 clear hq5
 by_cases hq6:h.grace=span0
 case neg=>
  have HV:Hid (V=false):=HVV.o.symm.trans (decide_eq_false (fun ⟨⟨e0,e1,e2,e3,e4,e5,e6,e7,e8,e9,e10,e11,e12,e13,e14,e15,e16,e17,e18⟩,em⟩=>hq6 (e6)))
  have qb:=eql_span h.grace hq6
  clear hq6
  go_wp2_with fail
  go_ret
  exact ⟨ret_bool HV.o.symm,HF.o⟩
 have HQ6:=hdd hq6
 rw [hq6] at c10 c11 c12
 have c10:u.cell? ⟨i,10,none⟩=some (.int .i64 0):=c10
 have c11:u.cell? ⟨i,11,none⟩=some (.bool false):=c11
 have c12:u.cell? ⟨i,12,none⟩=some (.string ⟨#[]⟩):=c12
 clear hq6
 by_cases hq7:h.conds= []
 case neg=>
  have HV:Hid (V=false):=HVV.o.symm.trans (decide_eq_false (fun ⟨⟨e0,e1,e2,e3,e4,e5,e6,e7,e8,e9,e10,e11,e12,e13,e14,e15,e16,e17,e18⟩,em⟩=>hq7 (e7)))
  have hlp:0<h.conds.length:=List.length_pos_iff.2 hq7
  have qb:((h.conds.length:Int)==0)=false:=beq_eq_false_iff_ne.2 (by omega)
  have qb2: ¬(h.conds.length:Int)=0:=by omega
  clear hq7
  go_wp2_with fail
  go_ret
  exact ⟨ret_bool HV.o.symm,HF.o⟩
 have HQ7:=hdd hq7
 rw [hq7] at c13
 replace c13:u.cell? ⟨i,13,none⟩=some (.slice A13 0 k13):=c13
 clear hq7
 by_cases hq8:h.by_= []
 case neg=>
  have HV:Hid (V=false):=HVV.o.symm.trans (decide_eq_false (fun ⟨⟨e0,e1,e2,e3,e4,e5,e6,e7,e8,e9,e10,e11,e12,e13,e14,e15,e16,e17,e18⟩,em⟩=>hq8 (e8)))
  have qb:(h.by_== [])=false:=by simpa using hq8
  clear hq8
  go_wp2_with fail
  go_ret
  exact ⟨ret_bool HV.o.symm,HF.o⟩
 have HQ8:=hdd hq8
 rw [hq8] at c14
 clear hq8
 by_cases hq9:h.til= []
 case neg=>
  have HV:Hid (V=false):=HVV.o.symm.trans (decide_eq_false (fun ⟨⟨e0,e1,e2,e3,e4,e5,e6,e7,e8,e9,e10,e11,e12,e13,e14,e15,e16,e17,e18⟩,em⟩=>hq9 (e9)))
  have qb:(h.til== [])=false:=by simpa using hq9
  clear hq9
  go_wp2_with fail
  go_ret
  exact ⟨ret_bool HV.o.symm,HF.o⟩
 have HQ9:=hdd hq9
 rw [hq9] at c15
 clear hq9
 by_cases hq10:h.num=⟨0,0⟩
 case neg=>
  have HV:Hid (V=false):=HVV.o.symm.trans (decide_eq_false (fun ⟨⟨e0,e1,e2,e3,e4,e5,e6,e7,e8,e9,e10,e11,e12,e13,e14,e15,e16,e17,e18⟩,em⟩=>hq10 (e10)))
  have qb:=eql_ratio h.num hq10
  clear hq10
  go_wp2_with fail
  go_ret
  exact ⟨ret_bool HV.o.symm,HF.o⟩
 have HQ10:=hdd hq10
 rw [hq10] at c16 c17
 clear hq10
 by_cases hq11:h.unit= []
 case neg=>
  have HV:Hid (V=false):=HVV.o.symm.trans (decide_eq_false (fun ⟨⟨e0,e1,e2,e3,e4,e5,e6,e7,e8,e9,e10,e11,e12,e13,e14,e15,e16,e17,e18⟩,em⟩=>hq11 (e11)))
  have qb:(h.unit== [])=false:=by simpa using hq11
  clear hq11
  go_wp2_with fail
  go_ret
  exact ⟨ret_bool HV.o.symm,HF.o⟩
 have HQ11:=hdd hq11
 rw [hq11] at c18
 clear hq11
 by_cases hq12:h.sum= []
 case neg=>
  have HV:Hid (V=false):=HVV.o.symm.trans (decide_eq_false (fun ⟨⟨e0,e1,e2,e3,e4,e5,e6,e7,e8,e9,e10,e11,e12,e13,e14,e15,e16,e17,e18⟩,em⟩=>hq12 (e12)))
  have qb:(h.sum== [])=false:=by simpa using hq12
  clear hq12
  go_wp2_with fail
  go_ret
  exact ⟨ret_bool HV.o.symm,HF.o⟩
 have HQ12:=hdd hq12
 rw [hq12] at c19
 clear hq12
 by_cases hq13:h.fin=false
 case neg=>
  have HV:Hid (V=false):=HVV.o.symm.trans (decide_eq_false (fun ⟨⟨e0,e1,e2,e3,e4,e5,e6,e7,e8,e9,e10,e11,e12,e13,e14,e15,e16,e17,e18⟩,em⟩=>hq13 (e13)))
  have qb:h.fin=true:=by simpa using hq13
  rw [qb] at c20
  clear qb
  clear hq13
  go_wp2_with fail
  go_ret
  exact ⟨ret_bool HV.o.symm,HF.o⟩
 have HQ13:=hdd hq13
 rw [hq13] at c20
 clear hq13
 by_cases hq14:h.give= []
 case neg=>
  have HV:Hid (V=false):=HVV.o.symm.trans (decide_eq_false (fun ⟨⟨e0,e1,e2,e3,e4,e5,e6,e7,e8,e9,e10,e11,e12,e13,e14,e15,e16,e17,e18⟩,em⟩=>hq14 (e14)))
  have qb:(h.give== [])=false:=by simpa using hq14
  clear hq14
  go_wp2_with fail
  go_ret
  exact ⟨ret_bool HV.o.symm,HF.o⟩
 have HQ14:=hdd hq14
 rw [hq14] at c21
 clear hq14
 by_cases hq15:h.to_= []
 case neg=>
  have HV:Hid (V=false):=HVV.o.symm.trans (decide_eq_false (fun ⟨⟨e0,e1,e2,e3,e4,e5,e6,e7,e8,e9,e10,e11,e12,e13,e14,e15,e16,e17,e18⟩,em⟩=>hq15 (e15)))
  have qb:(h.to_== [])=false:=by simpa using hq15
  clear hq15
  go_wp2_with fail
  go_ret
  exact ⟨ret_bool HV.o.symm,HF.o⟩
 have HQ15:=hdd hq15
 rw [hq15] at c22
 clear hq15
 by_cases hq16:week7 h.days=true
 case neg=>
  have HV:Hid (V=false):=HVV.o.symm.trans (decide_eq_false (fun ⟨⟨e0,e1,e2,e3,e4,e5,e6,e7,e8,e9,e10,e11,e12,e13,e14,e15,e16,e17,e18⟩,em⟩=>hq16 ((week7_iff HDL.o).1 e16)))
  have hev:=eql_days a0 a1 a2 a3 a4 a5 a6
  have hwk:(!(a0||a1||a2||a3||a4||a5||a6))=false:=by rw [←HA0.o,←HA1.o,←HA2.o,←HA3.o,←HA4.o,←HA5.o,←HA6.o];exact Bool.eq_false_iff.2 hq16
  rw [hwk] at hev
  clear hwk
  clear hq16
  go_wp2_with fail
  go_ret
  exact ⟨ret_bool HV.o.symm,HF.o⟩
 have HQ16:=hdd hq16
 have hev:=eql_days a0 a1 a2 a3 a4 a5 a6
 have hwk:(!(a0||a1||a2||a3||a4||a5||a6))=true:=by rw [←HA0.o,←HA1.o,←HA2.o,←HA3.o,←HA4.o,←HA5.o,←HA6.o];exact hq16
 rw [hwk] at hev
 clear hwk
 clear hq16
 by_cases hq17:h.dates= []
 case neg=>
  have HV:Hid (V=false):=HVV.o.symm.trans (decide_eq_false (fun ⟨⟨e0,e1,e2,e3,e4,e5,e6,e7,e8,e9,e10,e11,e12,e13,e14,e15,e16,e17,e18⟩,em⟩=>hq17 (e17)))
  have hlp:0<h.dates.length:=List.length_pos_iff.2 hq17
  have qb:((h.dates.length:Int)==0)=false:=beq_eq_false_iff_ne.2 (by omega)
  have qb2: ¬(h.dates.length:Int)=0:=by omega
  clear hq17
  go_wp2_with fail
  go_ret
  exact ⟨ret_bool HV.o.symm,HF.o⟩
 have HQ17:=hdd hq17
 rw [hq17] at c30
 replace c30:u.cell? ⟨i,30,none⟩=some (.slice A30 0 k30):=c30
 clear hq17
 by_cases hq18:h.names= []
 case neg=>
  have HV:Hid (V=false):=HVV.o.symm.trans (decide_eq_false (fun ⟨⟨e0,e1,e2,e3,e4,e5,e6,e7,e8,e9,e10,e11,e12,e13,e14,e15,e16,e17,e18⟩,em⟩=>hq18 (e18)))
  have hlp:0<h.names.length:=List.length_pos_iff.2 hq18
  have qb:((h.names.length:Int)==0)=false:=beq_eq_false_iff_ne.2 (by omega)
  have qb2: ¬(h.names.length:Int)=0:=by omega
  clear hq18
  go_wp2_with fail
  go_ret
  exact ⟨ret_bool HV.o.symm,HF.o⟩
 have HQ18:=hdd hq18
 rw [hq18] at c31
 replace c31:u.cell? ⟨i,31,none⟩=some (.slice A31 0 k31):=c31
 clear hq18
 by_cases hq19:m=0
 case neg=>
  have HV:Hid (V=false):=HVV.o.symm.trans (decide_eq_false (fun ⟨⟨e0,e1,e2,e3,e4,e5,e6,e7,e8,e9,e10,e11,e12,e13,e14,e15,e16,e17,e18⟩,em⟩=>hq19 (em)))
  have qb:((m:Int)==0)=false:=beq_eq_false_iff_ne.2 (by omega)
  have qb2: ¬(m:Int)=0:=by omega
  clear hq19
  go_wp2_with fail
  go_ret
  exact ⟨ret_bool HV.o.symm,HF.o⟩
 have HQ19:=hdd hq19
 rw [hq19] at c32
 clear hq19
 have HV:Hid (V=true):=HVV.o.symm.trans (decide_eq_true ⟨⟨HQ0.o,HQ1.o,HQ2.o,HQ3.o,HQ4.o,HQ5.o,HQ6.o,HQ7.o,HQ8.o,HQ9.o,HQ10.o,HQ11.o,HQ12.o,HQ13.o,HQ14.o,HQ15.o,(week7_iff HDL.o).2 HQ16.o,HQ17.o,HQ18.o⟩,HQ19.o⟩)
 go_wp2_with fail
 go_ret
 exact ⟨ret_bool HV.o.symm,HF.o⟩
end Go.Proofs.YtfficindoecpfaaGreatDoor.Pt
