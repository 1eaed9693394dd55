/-
  The two regions of the reference's comparison that compare the items' fields.
-/
import Derived.Test.YtfficindoecpfaaGreatDoorPriSame
import Derived.Test.YtfficindoecpfaaGreatDoorCut
set_option maxHeartbeats 64000000
set_option maxRecDepth 100000
set_option linter.unusedVariables false
set_option linter.unusedSimpArgs false
namespace Go.Proofs.YtfficindoecpfaaGreatDoor.Pt
open Go.RowKit Mem Vw Rs
open Ic (RowB DT Lay LayL tsz jv9 jv4)
theorem kv6 {a b:ByteArray} (h: ¬b=a):(!a.toList==b.toList)=true:=by
 rw [←beq_toListBytes]
 cases e:(a==b) with
 |false=>rfl
 |true=>exact absurd ((MapKept.bytes_beq a b).1 e).symm h
theorem int_ne {a b:Int} (h: ¬b=a):(a !=b)=true:=by rw [bne_iff_ne];exact fun e=>h e.symm
theorem ne_span2 {a a2:Int} {b b2:Bool} {c c2:ByteArray} (h: ¬(a2=a∧b2=b∧c2=c)) (W:World):(binOp .neq 41 (.agg #[.int .i64 a,.bool b,.string c]) (.agg #[.int .i64 a2,.bool b2,.string c2])).run Tryz.prog W= .ok (.bool true) W:=by
 have H:=hdd h
 clear h
 go_simp
 intro h1 h2 h3
 exact H.o ⟨h1.symm,h2.symm,by
  have:=(MapKept.bytes_beq c c2).1 (by rw [beq_toListBytes,h3];simp)
  exact this.symm⟩
theorem ne_ratio2 {a b a2 b2:Int} (h: ¬(a2=a∧b2=b)) (W:World):(binOp .neq 44 (.agg #[.int .i64 a,.int .i64 b]) (.agg #[.int .i64 a2,.int .i64 b2])).run Tryz.prog W= .ok (.bool true) W:=by
 have H:=hdd h
 clear h
 go_simp
 intro h1 h2
 exact H.o ⟨h1.symm,h2.symm⟩
theorem ne_days2 (a0 a1 a2 a3 a4 a5 a6 c0 c1 c2 c3 c4 c5 c6:Bool) (h: ¬(c0=a0∧c1=a1∧c2=a2∧c3=a3∧c4=a4∧c5=a5∧c6=a6)) (W:World):(binOp .neq 45 (.agg #[.bool a0,.bool a1,.bool a2,.bool a3,.bool a4,.bool a5,.bool a6]) (.agg #[.bool c0,.bool c1,.bool c2,.bool c3,.bool c4,.bool c5,.bool c6])).run Tryz.prog W= .ok (.bool true) W:=by
 by_cases h0:c0=a0
 case neg=>
  cases a0<;>cases c0<;>first|exact absurd rfl h0|kernel_rfl
 subst h0
 by_cases h1:c1=a1
 case neg=>
  cases c0<;>cases a1<;>cases c1<;>first|exact absurd rfl h1|kernel_rfl
 subst h1
 by_cases h2:c2=a2
 case neg=>
  cases c0<;>cases c1<;>cases a2<;>cases c2<;>first|exact absurd rfl h2|kernel_rfl
 subst h2
 by_cases h3:c3=a3
 case neg=>
  cases c0<;>cases c1<;>cases c2<;>cases a3<;>cases c3<;>first|exact absurd rfl h3|kernel_rfl
 subst h3
 by_cases h4:c4=a4
 case neg=>
  cases c0<;>cases c1<;>cases c2<;>cases c3<;>cases a4<;>cases c4<;>first|exact absurd rfl h4|kernel_rfl
 subst h4
 by_cases h5:c5=a5
 case neg=>
  cases c0<;>cases c1<;>cases c2<;>cases c3<;>cases c4<;>cases a5<;>cases c5<;>first|exact absurd rfl h5|kernel_rfl
 subst h5
 by_cases h6:c6=a6
 case neg=>
  cases c0<;>cases c1<;>cases c2<;>cases c3<;>cases c4<;>cases c5<;>cases a6<;>cases c6<;>first|exact absurd rfl h6|kernel_rfl
 subst h6
 exact absurd ⟨rfl,rfl,rfl,rfl,rfl,rfl,rfl⟩ h
theorem its_r8 {X:World} {q1 q2:Nat} {a0 b0:Int} {a1 b1:ByteArray} {a3 b3:ByteArray} {a4 b4:ByteArray} {a5 b5:Int} {a6 b6:Int} {a7 b7:Int} {a8 b8:Bool} {a9 b9:ByteArray} {a10 b10:Int} {a11 b11:Bool} {a12 b12:ByteArray} {u0 u1 u3 u4 u5 u6 u7 u10 u11 u12 u13 u14 u15 u16 u17 u18 u19 u20 u21 u22 u23 u24 u25 u26 u27 u28 u29 u30 u31 u32 u33 u34 u35 u36 u37 u38 u39 u40 u41 u42 u43 u44 u45 u46 u47 u48 u49 u50 u51 u52 u53 u54 u55 u56 u57 u58 u59 u60 u61 u62 u63 u64 u65 u66 u67 u68 u69 u70 u71 u72 u73 u74 u75 u76 u77 u78 u79 u80 u81 u82 u83 u84 u85 u86 u87 u88 u89 u90 u91 u92 u93 u94 u95 u96 u97 u98 u99 u100 u101 u102 u103 u104 u105 u106 u107 u108 u109 u110 u111 u112 u113 u114 u115 u116 u117 u118 u119 u120 u121 u122 u123 u124 u125 u126 u127 u128 u129 u130 u131 u132 u133 u134 u135 u136 u137 u138 u139 u140 u141 u142 u143 u144 u145 u146 u147 u148 u149 u150 u151 u152 u153 u154 u155 u156 u157 u158 u159 u160 u161 u162 u163 u164 u165 u166 u167 u168:Value} {Q:Exit→Act→World→Prop} {C:Code} (hC:C=Cut.region Tryz.f31 8) (x0:X.cell? ⟨q1,0,none⟩=some (.int .i64 a0)) (y0:X.cell? ⟨q2,0,none⟩=some (.int .i64 b0)) (x1:X.cell? ⟨q1,1,none⟩=some (.string a1)) (y1:X.cell? ⟨q2,1,none⟩=some (.string b1)) (x3:X.cell? ⟨q1,3,none⟩=some (.string a3)) (y3:X.cell? ⟨q2,3,none⟩=some (.string b3)) (x4:X.cell? ⟨q1,4,none⟩=some (.string a4)) (y4:X.cell? ⟨q2,4,none⟩=some (.string b4)) (x5:X.cell? ⟨q1,5,none⟩=some (.int .i64 a5)) (y5:X.cell? ⟨q2,5,none⟩=some (.int .i64 b5)) (x6:X.cell? ⟨q1,6,none⟩=some (.int .i64 a6)) (y6:X.cell? ⟨q2,6,none⟩=some (.int .i64 b6)) (x7:X.cell? ⟨q1,7,none⟩=some (.int .i64 a7)) (y7:X.cell? ⟨q2,7,none⟩=some (.int .i64 b7)) (x8:X.cell? ⟨q1,8,none⟩=some (.bool a8)) (y8:X.cell? ⟨q2,8,none⟩=some (.bool b8)) (x9:X.cell? ⟨q1,9,none⟩=some (.string a9)) (y9:X.cell? ⟨q2,9,none⟩=some (.string b9)) (x10:X.cell? ⟨q1,10,none⟩=some (.int .i64 a10)) (y10:X.cell? ⟨q2,10,none⟩=some (.int .i64 b10)) (x11:X.cell? ⟨q1,11,none⟩=some (.bool a11)) (y11:X.cell? ⟨q2,11,none⟩=some (.bool b11)) (x12:X.cell? ⟨q1,12,none⟩=some (.string a12)) (y12:X.cell? ⟨q2,12,none⟩=some (.string b12))
  (hQ: ∀(wx:World),X=wx→ ∀r:Bool,(r=false↔b0=a0∧b1=a1∧b3=a3∧b4=a4∧b5=a5∧b6=a6∧b7=a7∧b8=a8∧b9=a9∧b10=a10∧b11=a11∧b12=a12)→ ∀(v29 v30 v31 v32 v33 v34 v35 v36 v37 v38 v39 v40 v41 v42 v43 v44 v45 v46 v47 v48 v49 v50 v51 v52 v53 v54 v55 v56 v57 v58 v59 v60 v61 v62 v63 v64 v65 v66 v67 v68 v69 v70 v71 v72 v73 v74 v75 v76 v77 v78 v79 v80 v81 v82 v83 v84 v85 v86 v87 v88 v89 v90 v91:Value),Q .normal ⟨#[u0,u1,.bool false,u3,u4,u5,u6,u7,.pointer (some ⟨q1,0,none⟩),.pointer (some ⟨q2,0,none⟩),u10,u11,u12,u13,u14,u15,u16,u17,u18,u19,u20,u21,u22,u23,u24,u25,u26,u27,u28,v29,v30,v31,v32,v33,v34,v35,v36,v37,v38,v39,v40,v41,v42,v43,v44,v45,v46,v47,v48,v49,v50,v51,v52,v53,v54,v55,v56,v57,v58,v59,v60,v61,v62,v63,v64,v65,v66,v67,v68,v69,v70,v71,v72,v73,v74,v75,v76,v77,v78,v79,v80,v81,v82,v83,v84,v85,v86,v87,v88,v89,v90,v91,.bool r,u93,u94,u95,u96,u97,u98,u99,u100,u101,u102,u103,u104,u105,u106,u107,u108,u109,u110,u111,u112,u113,u114,u115,u116,u117,u118,u119,u120,u121,u122,u123,u124,u125,u126,u127,u128,u129,u130,u131,u132,u133,u134,u135,u136,u137,u138,u139,u140,u141,u142,u143,u144,u145,u146,u147,u148,u149,u150,u151,u152,u153,u154,u155,u156,u157,u158,u159,u160,u161,u162,u163,u164,u165,u166,u167,u168],[]⟩ wx):
  Code.wp Tryz.prog C Q ⟨#[u0,u1,.bool false,u3,u4,u5,u6,u7,.pointer (some ⟨q1,0,none⟩),.pointer (some ⟨q2,0,none⟩),u10,u11,u12,u13,u14,u15,u16,u17,u18,u19,u20,u21,u22,u23,u24,u25,u26,u27,u28,u29,u30,u31,u32,u33,u34,u35,u36,u37,u38,u39,u40,u41,u42,u43,u44,u45,u46,u47,u48,u49,u50,u51,u52,u53,u54,u55,u56,u57,u58,u59,u60,u61,u62,u63,u64,u65,u66,u67,u68,u69,u70,u71,u72,u73,u74,u75,u76,u77,u78,u79,u80,u81,u82,u83,u84,u85,u86,u87,u88,u89,u90,u91,u92,u93,u94,u95,u96,u97,u98,u99,u100,u101,u102,u103,u104,u105,u106,u107,u108,u109,u110,u111,u112,u113,u114,u115,u116,u117,u118,u119,u120,u121,u122,u123,u124,u125,u126,u127,u128,u129,u130,u131,u132,u133,u134,u135,u136,u137,u138,u139,u140,u141,u142,u143,u144,u145,u146,u147,u148,u149,u150,u151,u152,u153,u154,u155,u156,u157,u158,u159,u160,u161,u162,u163,u164,u165,u166,u167,u168],[]⟩ X:=by
 subst hC
 conv=>arg 2;whnf
 have HQ:=hdd hQ
 clear hQ
 by_cases he:b0=a0
 case neg=>
  have HE:=hdd he
  have q:=int_ne he
  clear he
  go_wp2_with fail
  exact HQ.o _ rfl true ⟨fun h=>(by cases h),fun hh=>(HE.o (hh.1)).elim⟩ ..
 subst he
 by_cases he:b1=a1
 case neg=>
  have HE:=hdd he
  have q:=kv6 he
  clear he
  go_wp2_with fail
  exact HQ.o _ rfl true ⟨fun h=>(by cases h),fun hh=>(HE.o (hh.2.1)).elim⟩ ..
 subst he
 by_cases he:b3=a3
 case neg=>
  have HE:=hdd he
  have q:=kv6 he
  clear he
  go_wp2_with fail
  exact HQ.o _ rfl true ⟨fun h=>(by cases h),fun hh=>(HE.o (hh.2.2.1)).elim⟩ ..
 subst he
 by_cases he:b4=a4
 case neg=>
  have HE:=hdd he
  have q:=kv6 he
  clear he
  go_wp2_with fail
  exact HQ.o _ rfl true ⟨fun h=>(by cases h),fun hh=>(HE.o (hh.2.2.2.1)).elim⟩ ..
 subst he
 by_cases he:b5=a5
 case neg=>
  have HE:=hdd he
  have q:=int_ne he
  clear he
  go_wp2_with fail
  exact HQ.o _ rfl true ⟨fun h=>(by cases h),fun hh=>(HE.o (hh.2.2.2.2.1)).elim⟩ ..
 subst he
 by_cases he:b6=a6
 case neg=>
  have HE:=hdd he
  have q:=int_ne he
  clear he
  go_wp2_with fail
  exact HQ.o _ rfl true ⟨fun h=>(by cases h),fun hh=>(HE.o (hh.2.2.2.2.2.1)).elim⟩ ..
 subst he
 by_cases he:b7=a7∧b8=a8∧b9=a9
 case neg=>
  have HE:=hdd he
  have q:=ne_span2 he
  clear he
  go_wp2_with fail
  exact HQ.o _ rfl true ⟨fun h=>(by cases h),fun hh=>(HE.o ⟨hh.2.2.2.2.2.2.1,hh.2.2.2.2.2.2.2.1,hh.2.2.2.2.2.2.2.2.1⟩).elim⟩ ..
 obtain ⟨rfl,rfl,rfl⟩:=he
 have s7:=ne_span b7 b8 b9
 by_cases he:b10=a10∧b11=a11∧b12=a12
 case neg=>
  have HE:=hdd he
  have q:=ne_span2 he
  clear he
  go_wp2_with fail
  exact HQ.o _ rfl true ⟨fun h=>(by cases h),fun hh=>(HE.o ⟨hh.2.2.2.2.2.2.2.2.2.1,hh.2.2.2.2.2.2.2.2.2.2.1,hh.2.2.2.2.2.2.2.2.2.2.2⟩).elim⟩ ..
 obtain ⟨rfl,rfl,rfl⟩:=he
 have s10:=ne_span b10 b11 b12
 go_wp2_with fail
 exact HQ.o _ rfl false ⟨fun _=>(by simp),fun _=>rfl⟩ ..
theorem cell_of_row {W:World} {q:Nat} {cs:List Value} {t:TypeId} {v:Value} {k:Nat} (h:W.heap[q]?=some (.cells cs.toArray t (0,0))) (hk:cs[k]?=some v):W.cell? ⟨q,k,none⟩=some v:=(jq0 h k).trans (by simpa using hk)
theorem its_r10 {X:World} {q1 q2:Nat} {a14 b14:ByteArray} {a15 b15:ByteArray} {a16 b16:Int} {a17 b17:Int} {a18 b18:ByteArray} {a19 b19:ByteArray} {a20 b20:Bool} {a21 b21:ByteArray} {a22 b22:ByteArray} {a23 b23:Bool} {a24 b24:Bool} {a25 b25:Bool} {a26 b26:Bool} {a27 b27:Bool} {a28 b28:Bool} {a29 b29:Bool} {cs ds:List Value} {iA iB:Value} {PL PI:Prop} {u0 u1 u3 u4 u5 u6 u7 u10 u11 u12 u13 u14 u15 u16 u17 u18 u19 u20 u21 u22 u23 u24 u25 u26 u27 u28 u29 u30 u31 u32 u33 u34 u35 u36 u37 u38 u39 u40 u41 u42 u43 u44 u45 u46 u47 u48 u49 u50 u51 u52 u53 u54 u55 u56 u57 u58 u59 u60 u61 u62 u63 u64 u65 u66 u67 u68 u69 u70 u71 u72 u73 u74 u75 u76 u77 u78 u79 u80 u81 u82 u83 u84 u85 u86 u87 u88 u89 u90 u91 u92 u93 u94 u95 u96 u97 u98 u99 u100 u101 u102 u103 u104 u105 u106 u107 u108 u109 u110 u111 u112 u113 u114 u115 u116 u117 u118 u119 u120 u121 u122 u123 u124 u125 u126 u127 u128 u129 u130 u131 u132 u133 u134 u135 u136 u137 u138 u139 u140 u141 u142 u143 u144 u145 u146 u147 u148 u149 u150 u151 u152 u153 u154 u155 u156 u157 u158 u159 u160 u161 u162 u163 u164 u165 u166 u167 u168:Value} {Q:Exit→Act→World→Prop} {C:Code} (hC:C=Cut.region Tryz.f31 10) (x14:X.cell? ⟨q1,14,none⟩=some (.string a14)) (y14:X.cell? ⟨q2,14,none⟩=some (.string b14)) (x15:X.cell? ⟨q1,15,none⟩=some (.string a15)) (y15:X.cell? ⟨q2,15,none⟩=some (.string b15)) (x16:X.cell? ⟨q1,16,none⟩=some (.int .i64 a16)) (y16:X.cell? ⟨q2,16,none⟩=some (.int .i64 b16)) (x17:X.cell? ⟨q1,17,none⟩=some (.int .i64 a17)) (y17:X.cell? ⟨q2,17,none⟩=some (.int .i64 b17)) (x18:X.cell? ⟨q1,18,none⟩=some (.string a18)) (y18:X.cell? ⟨q2,18,none⟩=some (.string b18)) (x19:X.cell? ⟨q1,19,none⟩=some (.string a19)) (y19:X.cell? ⟨q2,19,none⟩=some (.string b19)) (x20:X.cell? ⟨q1,20,none⟩=some (.bool a20)) (y20:X.cell? ⟨q2,20,none⟩=some (.bool b20)) (x21:X.cell? ⟨q1,21,none⟩=some (.string a21)) (y21:X.cell? ⟨q2,21,none⟩=some (.string b21)) (x22:X.cell? ⟨q1,22,none⟩=some (.string a22)) (y22:X.cell? ⟨q2,22,none⟩=some (.string b22)) (x23:X.cell? ⟨q1,23,none⟩=some (.bool a23)) (y23:X.cell? ⟨q2,23,none⟩=some (.bool b23)) (x24:X.cell? ⟨q1,24,none⟩=some (.bool a24)) (y24:X.cell? ⟨q2,24,none⟩=some (.bool b24)) (x25:X.cell? ⟨q1,25,none⟩=some (.bool a25)) (y25:X.cell? ⟨q2,25,none⟩=some (.bool b25)) (x26:X.cell? ⟨q1,26,none⟩=some (.bool a26)) (y26:X.cell? ⟨q2,26,none⟩=some (.bool b26)) (x27:X.cell? ⟨q1,27,none⟩=some (.bool a27)) (y27:X.cell? ⟨q2,27,none⟩=some (.bool b27)) (x28:X.cell? ⟨q1,28,none⟩=some (.bool a28)) (y28:X.cell? ⟨q2,28,none⟩=some (.bool b28)) (x29:X.cell? ⟨q1,29,none⟩=some (.bool a29)) (y29:X.cell? ⟨q2,29,none⟩=some (.bool b29)) (hx:X.heap[q1]?=some (.cells cs.toArray 49 (0,0))) (hy:X.heap[q2]?=some (.cells ds.toArray 49 (0,0))) (hxi:(Tryz.prog.info? 49).map (·.size)=some cs.length) (hyi:(Tryz.prog.info? 49).map (·.size)=some ds.length) (hxs:cs[32]?=some iA) (hys:ds[32]?=some iB)
  (hL:Calls Tryz.prog 67 #[.agg cs.toArray,.agg ds.toArray] X fun e w'=>(∃r:Bool,e= .returned (.bool r)∧(r=true↔PL))∧Fr (fun _=>False) X w')
  (hS: ∀w,Fr (fun _=>False) X w→Calls Tryz.prog 31 #[iA,iB,.bool false] w fun e w'=>(∃r:Bool,e= .returned (.bool r)∧(r=true↔PI))∧Fr (fun _=>False) w w')
  (hQ: ∀(wx:World),Fr (fun _=>False) X wx→ ∀r:Bool,(r=false↔b14=a14∧b15=a15∧b16=a16∧b17=a17∧b18=a18∧b19=a19∧b20=a20∧b21=a21∧b22=a22∧b23=a23∧b24=a24∧b25=a25∧b26=a26∧b27=a27∧b28=a28∧b29=a29∧PL∧PI)→ ∀(v93 v94 v95 v96 v97 v98 v99 v100 v101 v102 v103 v104 v105 v106 v107 v108 v109 v110 v111 v112 v113 v114 v115 v116 v117 v118 v119 v120 v121 v122 v123 v124 v125 v126 v127 v128 v129 v130 v131 v132 v133 v134 v135 v136 v137 v138 v139 v140 v141 v142 v143 v144 v145 v146 v147 v148 v149 v150 v151 v152 v153 v154 v155 v156 v157 v158 v159 v160 v161 v162 v163 v164 v165 v166 v167:Value),Q .normal ⟨#[u0,u1,.bool false,u3,u4,u5,u6,u7,.pointer (some ⟨q1,0,none⟩),.pointer (some ⟨q2,0,none⟩),u10,u11,u12,u13,u14,u15,u16,u17,u18,u19,u20,u21,u22,u23,u24,u25,u26,u27,u28,u29,u30,u31,u32,u33,u34,u35,u36,u37,u38,u39,u40,u41,u42,u43,u44,u45,u46,u47,u48,u49,u50,u51,u52,u53,u54,u55,u56,u57,u58,u59,u60,u61,u62,u63,u64,u65,u66,u67,u68,u69,u70,u71,u72,u73,u74,u75,u76,u77,u78,u79,u80,u81,u82,u83,u84,u85,u86,u87,u88,u89,u90,u91,u92,v93,v94,v95,v96,v97,v98,v99,v100,v101,v102,v103,v104,v105,v106,v107,v108,v109,v110,v111,v112,v113,v114,v115,v116,v117,v118,v119,v120,v121,v122,v123,v124,v125,v126,v127,v128,v129,v130,v131,v132,v133,v134,v135,v136,v137,v138,v139,v140,v141,v142,v143,v144,v145,v146,v147,v148,v149,v150,v151,v152,v153,v154,v155,v156,v157,v158,v159,v160,v161,v162,v163,v164,v165,v166,v167,.bool r],[]⟩ wx):
  Code.wp Tryz.prog C Q ⟨#[u0,u1,.bool false,u3,u4,u5,u6,u7,.pointer (some ⟨q1,0,none⟩),.pointer (some ⟨q2,0,none⟩),u10,u11,u12,u13,u14,u15,u16,u17,u18,u19,u20,u21,u22,u23,u24,u25,u26,u27,u28,u29,u30,u31,u32,u33,u34,u35,u36,u37,u38,u39,u40,u41,u42,u43,u44,u45,u46,u47,u48,u49,u50,u51,u52,u53,u54,u55,u56,u57,u58,u59,u60,u61,u62,u63,u64,u65,u66,u67,u68,u69,u70,u71,u72,u73,u74,u75,u76,u77,u78,u79,u80,u81,u82,u83,u84,u85,u86,u87,u88,u89,u90,u91,u92,u93,u94,u95,u96,u97,u98,u99,u100,u101,u102,u103,u104,u105,u106,u107,u108,u109,u110,u111,u112,u113,u114,u115,u116,u117,u118,u119,u120,u121,u122,u123,u124,u125,u126,u127,u128,u129,u130,u131,u132,u133,u134,u135,u136,u137,u138,u139,u140,u141,u142,u143,u144,u145,u146,u147,u148,u149,u150,u151,u152,u153,u154,u155,u156,u157,u158,u159,u160,u161,u162,u163,u164,u165,u166,u167,u168],[]⟩ X:=by
 subst hC
 conv=>arg 2;whnf
 dsimp only [List.append]
 have HQ:=hdd hQ;have HL:=hdd hL;have HS:=hdd hS;have HX:=hdd hx;have HY:=hdd hy;have HXI:=hdd hxi;have HYI:=hdd hyi;have HXS:=hdd hxs;have HYS:=hdd hys
 clear hQ hL hS hx hy hxi hyi hxs hys
 by_cases he:b14=a14
 case neg=>
  have HE:=hdd he
  have q:=kv6 he
  clear he
  go_wp2_with fail
  exact HQ.o _ (Fr.refl _ _) true ⟨fun h=>(by cases h),fun hh=>(HE.o (hh.1)).elim⟩ ..
 subst he
 by_cases he:b15=a15
 case neg=>
  have HE:=hdd he
  have q:=kv6 he
  clear he
  go_wp2_with fail
  exact HQ.o _ (Fr.refl _ _) true ⟨fun h=>(by cases h),fun hh=>(HE.o (hh.2.1)).elim⟩ ..
 subst he
 by_cases he:b16=a16∧b17=a17
 case neg=>
  have HE:=hdd he
  have q:=ne_ratio2 he
  clear he
  go_wp2_with fail
  exact HQ.o _ (Fr.refl _ _) true ⟨fun h=>(by cases h),fun hh=>(HE.o ⟨hh.2.2.1,hh.2.2.2.1⟩).elim⟩ ..
 obtain ⟨rfl,rfl⟩:=he
 have s16:=ne_ratio b16 b17
 by_cases he:b18=a18
 case neg=>
  have HE:=hdd he
  have q:=kv6 he
  clear he
  go_wp2_with fail
  exact HQ.o _ (Fr.refl _ _) true ⟨fun h=>(by cases h),fun hh=>(HE.o (hh.2.2.2.2.1)).elim⟩ ..
 subst he
 by_cases he:b19=a19
 case neg=>
  have HE:=hdd he
  have q:=kv6 he
  clear he
  go_wp2_with fail
  exact HQ.o _ (Fr.refl _ _) true ⟨fun h=>(by cases h),fun hh=>(HE.o (hh.2.2.2.2.2.1)).elim⟩ ..
 subst he
 by_cases he:b20=a20
 case neg=>
  cases a20<;>cases b20<;>first|exact absurd rfl he|skip
  all_goals
   clear he
   go_wp2_with fail
   exact HQ.o _ (Fr.refl _ _) true ⟨fun h=>(by cases h),fun hh=>absurd (hh.2.2.2.2.2.2.1) (by decide)⟩ ..
 subst he
 by_cases he:b21=a21
 case neg=>
  have HE:=hdd he
  have q:=kv6 he
  clear he
  go_wp2_with fail
  exact HQ.o _ (Fr.refl _ _) true ⟨fun h=>(by cases h),fun hh=>(HE.o (hh.2.2.2.2.2.2.2.1)).elim⟩ ..
 subst he
 by_cases he:b22=a22
 case neg=>
  have HE:=hdd he
  have q:=kv6 he
  clear he
  go_wp2_with fail
  exact HQ.o _ (Fr.refl _ _) true ⟨fun h=>(by cases h),fun hh=>(HE.o (hh.2.2.2.2.2.2.2.2.1)).elim⟩ ..
 subst he
 by_cases he:b23=a23∧b24=a24∧b25=a25∧b26=a26∧b27=a27∧b28=a28∧b29=a29
 case neg=>
  have HE:=hdd he
  have q:=ne_days2 _ _ _ _ _ _ _ _ _ _ _ _ _ _ he
  clear he
  go_wp2_with fail
  exact HQ.o _ (Fr.refl _ _) true ⟨fun h=>(by cases h),fun hh=>(HE.o ⟨hh.2.2.2.2.2.2.2.2.2.1,hh.2.2.2.2.2.2.2.2.2.2.1,hh.2.2.2.2.2.2.2.2.2.2.2.1,hh.2.2.2.2.2.2.2.2.2.2.2.2.1,hh.2.2.2.2.2.2.2.2.2.2.2.2.2.1,hh.2.2.2.2.2.2.2.2.2.2.2.2.2.2.1,hh.2.2.2.2.2.2.2.2.2.2.2.2.2.2.2.1⟩).elim⟩ ..
 obtain ⟨rfl,rfl,rfl,rfl,rfl,rfl,rfl⟩:=he
 have s23:=ne_days b23 b24 b25 b26 b27 b28 b29
 go_wp2_with (first|(refine jz5 (op:=⟨some 155,_,_,_,_,_⟩) ?hw 49 _ rfl q1 rfl cs _ _ HX.o Tryz.underlying49 rfl HXI.o ?_;(case hw=>rfl))|(refine jz5 (op:=⟨some 156,_,_,_,_,_⟩) ?hw 49 _ rfl q2 rfl ds _ _ HY.o Tryz.underlying49 rfl HYI.o ?_;(case hw=>rfl)))
 refine HL.o.mono ?_
 rintro e w3 ⟨⟨r,rfl,hr⟩,hf3⟩
 have HF3:=hdd hf3
 have HR:=hdd hr
 have z32:w3.cell? ⟨q1,32,none⟩=some iA:=cell_of_row (hf3.blk HX.o (fun h=>h)) HXS.o
 have z33:w3.cell? ⟨q2,32,none⟩=some iB:=cell_of_row (hf3.blk HY.o (fun h=>h)) HYS.o
 clear hf3 hr
 cases r with
 |false=>
  go_wp2_with fail
  exact HQ.o _ HF3.o true ⟨fun h=>(by cases h),fun hh=>absurd (HR.o.2 (hh.2.2.2.2.2.2.2.2.2.2.2.2.2.2.2.2.1)) (by decide)⟩ ..
 |true=>
 have HPL:Hid PL:=HR.o.1 rfl
 clear HR
 go_wp2_with fail
 refine (HS.o _ HF3.o).mono ?_
 rintro e w4 ⟨⟨r,rfl,hr⟩,hf4⟩
 have HF4:Hid (Fr (fun _=>False) X w4):=HF3.o.trans hf4
 have HR2:=hdd hr
 clear hf4 hr
 cases r with
 |false=>
  go_wp2_with fail
  exact HQ.o _ HF4.o true ⟨fun h=>(by cases h),fun hh=>absurd (HR2.o.2 (hh.2.2.2.2.2.2.2.2.2.2.2.2.2.2.2.2.2)) (by decide)⟩ ..
 |true=>
 have HPI:Hid PI:=HR2.o.1 rfl
 clear HR2
 go_wp2_with fail
 exact HQ.o _ HF4.o false ⟨fun _=>(by simp only [eq_self,true_and];exact ⟨HPL.o,HPI.o⟩),fun _=>rfl⟩ ..
end Go.Proofs.YtfficindoecpfaaGreatDoor.Pt
