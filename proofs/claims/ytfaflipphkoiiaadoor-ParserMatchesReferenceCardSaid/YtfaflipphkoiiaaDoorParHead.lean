/-
  The fixed examples of the statements about the parser return true.
-/
import Derived.Test.YtfaflipphkoiiaaDoorPkParD
import Derived.Deep.Cut
set_option maxHeartbeats 64000000
set_option maxRecDepth 100000
set_option linter.unusedVariables false
namespace Go.Proofs.YtfaflipphkoiiaaDoor.Pr
open Go.RowKit Mem
open Lx (Tok bs)
def hx1:Item:=⟨{flat0 with kind:=1,name:= [112,97,114,116,121],pos:=38},[]⟩
def hx4:Item:=⟨{flat0 with kind:=9,name:= [100],pos:=37,of_:= [97],act:= [120],times:=1,within:=⟨3,true,[]⟩,grace:=⟨0,false,[115]⟩,conds:= [⟨[98],2⟩,⟨[101],4⟩],num:=⟨5,2⟩,unit:= [69,85,82],to_:= [102],fin:=true},[]⟩
theorem parse_h1:parse (bs ⟨#[99,111,110,116,114,97,99,116,32,99,32,102,114,111,109,32,50,48,50,54,45,49,45,53,32,102,111,114,32,51,48,32,100,97,121,115,59,32,112,97,114,116,121,32,112,97,114,116,121,59]⟩)= .ok ⟨[99],⟨2026,1,5⟩,30,[hx1]⟩:=by kernel_rfl
theorem parse_h2:parse (bs ⟨#[99,111,110,116,114,97,99,116]⟩)= .error (7,8):=by kernel_rfl
theorem parse_h3:parse (bs ⟨#[99,111,110,116,114,97,99,116,32,99,32,102,111,114]⟩)= .error (6,11):=by kernel_rfl
theorem parse_h4:parse (bs ⟨#[99,111,110,116,114,97,99,116,32,99,32,102,114,111,109,32,50,48,50,54,45,49,45,53,32,102,111,114,32,51,48,32,100,97,121,115,59,100,117,116,121,32,100,32,111,102,32,97,58,32,120,32,119,105,116,104,105,110,32,51,32,98,117,115,105,110,101,115,115,32,100,97,121,115,32,103,114,97,99,101,32,115,32,105,102,32,98,32,100,111,110,101,32,97,110,100,32,101,32,118,111,105,100,32,118,97,108,117,101,32,53,47,50,32,69,85,82,32,116,111,32,102,32,102,105,110,97,108,59]⟩)= .ok ⟨[99],⟨2026,1,5⟩,30,[hx4]⟩:=by kernel_rfl
theorem parse_h5:parse (bs ⟨#[99,111,110,116,114,97,99,116,32,99,32,102,114,111,109,32,50,48,50,54,45,49,45,53,32,102,111,114,32,51,48,32,100,97,121,115,59,32,116,101,109,112,108,97,116,101,32,116,40,41,123,32,112,97,114,116,121,32,112,59,32,125]⟩)= .error (6,52):=by kernel_rfl
theorem view1 {W:World} {x:Item} {v:Value} (h:VItems W [x] v): ∃g o cap sc sd sn si,v= .slice (some ⟨g,o,none⟩) 1 cap∧g<W.heap.size∧W.rangeAt g o (icells x.flat sc sd sn si)∧VFlat W x.flat sc sd sn∧VInner W x.inner si:=by
 obtain ⟨vs,hl,⟨A,cap,e,hc,hr⟩,hf⟩:=h
 match vs,hl with
 | [y],_=>
  obtain ⟨sc,sd,sn,si⟩:=y
  obtain ⟨g,o,hA,hg,hr2⟩:=hr.resolve_left (by simp)
  subst hA
  have r:=hr2 0 _ rfl
  rw [Nat.zero_mul,Nat.add_zero] at r
  have f:=hf _ (List.mem_singleton.2 rfl)
  exact ⟨g,o,cap,sc,sd,sn,si,e,hg,r,f.1,f.2⟩
theorem eqh_1 (W:World):(binOp .eql 24 (.agg #[.int .i64 2026,.int .i64 1,.int .i64 5]) (.agg #[.int .i64 2026,.int .i64 1,.int .i64 5])).run Tryd.prog W= .ok (.bool true) W:=by kernel_rfl
theorem eqh_2 (W:World):(binOp .eql 49 (.agg #[.int .i64 3,.bool true,.string ⟨#[]⟩]) (.agg #[.int .i64 3,.bool true,.string ⟨#[]⟩])).run Tryd.prog W= .ok (.bool true) W:=by kernel_rfl
theorem eqh_3 (W:World):(binOp .eql 49 (.agg #[.int .i64 0,.bool false,.string ⟨#[115]⟩]) (.agg #[.int .i64 0,.bool false,.string ⟨#[115]⟩])).run Tryd.prog W= .ok (.bool true) W:=by kernel_rfl
theorem eqh_4 (W:World):(binOp .eql 59 (.agg #[.string ⟨#[101]⟩,.int .i64 4]) (.agg #[.string ⟨#[101]⟩,.int .i64 4])).run Tryd.prog W= .ok (.bool true) W:=by kernel_rfl
theorem eqh_5 (W:World):(binOp .eql 52 (.agg #[.int .i64 5,.int .i64 2]) (.agg #[.int .i64 5,.int .i64 2])).run Tryd.prog W= .ok (.bool true) W:=by kernel_rfl
theorem head_any (w:World) (hw:Wks w):
  Calls Tryd.prog 10 #[] w fun e w'=>e= .returned (.bool true)∧Below w.heap.size w w':=by
 have HW:=hdd hw;clear hw
 go_enter Tryd.func10,Tryd.ntmps10
 go_wp2_with fail
 refine (parse_okv _ _ (by decide) HW.o _ parse_h1).mono ?_
 rintro e w1 ⟨⟨si1,rfl,hv⟩,hb⟩
 obtain ⟨A1,cap1,rfl,hc1⟩:=hv.form
 have HB1:=hdd hb;clear hb
 have HB1':Hid (Below w.heap.size w (w1.alloc (.cells (srcells [99] ⟨2026,1,5⟩ 30 (.slice A1 1 cap1)).toArray 27))):=HB1.o.alloc HB1.o.size _
 have HV1:Hid (VItems (w1.alloc (.cells (srcells [99] ⟨2026,1,5⟩ 30 (.slice A1 1 cap1)).toArray 27)) [hx1] (.slice A1 1 cap1)):=hv.below ((Below.refl _ w1).alloc (Nat.le_refl _) _)
 have HS1:Hid (SB w1.heap.size [99] ⟨2026,1,5⟩ 30 (.slice A1 1 cap1) (w1.alloc (.cells (srcells [99] ⟨2026,1,5⟩ 30 (.slice A1 1 cap1)).toArray 27))):=jq5 rfl
 clear hv
 go_wp2_with (refine jq4 rfl 27 _ _ rfl rfl (srcells [99] ⟨2026,1,5⟩ 30 (.slice A1 1 cap1)).toArray rfl jz4 (jz5 _ _ _ _ ⟨_,_,_,rfl⟩) (by rfl) ?_)
 generalize hq1:w1.heap.size=q1 at*
 clear HB1 hq1
 generalize w1.alloc (.cells (srcells [99] ⟨2026,1,5⟩ 30 (.slice A1 1 cap1)).toArray 27)=u1 at*
 have K1:Hid (Wks u1):=HW.o.below HB1'.o
 refine (parse_no _ _ (by decide) K1.o _ _ parse_h2).mono ?_
 rintro e w2 ⟨rfl,hb⟩
 have HB2:Hid (Below u1.heap.size u1 w2):=hb;clear hb
 have HB2':Hid (Below u1.heap.size u1 (w2.alloc (.cells (srcells [] civ0 0 nil).toArray 27))):=HB2.o.alloc HB2.o.size _
 go_wp2_with (refine jq4 rfl 27 _ _ rfl rfl (srcells [] civ0 0 nil).toArray rfl jz4 (jz5 _ _ _ _ ⟨_,_,_,rfl⟩) (by rfl) ?_)
 clear HB2
 generalize w2.alloc (.cells (srcells [] civ0 0 nil).toArray 27)=u2 at*
 have K2:Hid (Wks u2):=K1.o.below HB2'.o
 refine (parse_no _ _ (by decide) K2.o _ _ parse_h3).mono ?_
 rintro e w3 ⟨rfl,hb⟩
 have HB3:Hid (Below u2.heap.size u2 w3):=hb;clear hb
 have HB3':Hid (Below u2.heap.size u2 (w3.alloc (.cells (srcells [] civ0 0 nil).toArray 27))):=HB3.o.alloc HB3.o.size _
 go_wp2_with (refine jq4 rfl 27 _ _ rfl rfl (srcells [] civ0 0 nil).toArray rfl jz4 (jz5 _ _ _ _ ⟨_,_,_,rfl⟩) (by rfl) ?_)
 clear HB3
 generalize w3.alloc (.cells (srcells [] civ0 0 nil).toArray 27)=u3 at*
 have K3:Hid (Wks u3):=K2.o.below HB3'.o
 refine (parse_okv _ _ (by decide) K3.o _ parse_h4).mono ?_
 rintro e w4 ⟨⟨si4,rfl,hv⟩,hb⟩
 obtain ⟨A4,cap4,rfl,hc4⟩:=hv.form
 have HB4:Hid (Below u3.heap.size u3 w4):=hb;clear hb
 have HB4':Hid (Below u3.heap.size u3 (w4.alloc (.cells (srcells [99] ⟨2026,1,5⟩ 30 (.slice A4 1 cap4)).toArray 27))):=HB4.o.alloc HB4.o.size _
 have HV4:Hid (VItems (w4.alloc (.cells (srcells [99] ⟨2026,1,5⟩ 30 (.slice A4 1 cap4)).toArray 27)) [hx4] (.slice A4 1 cap4)):=hv.below ((Below.refl _ w4).alloc (Nat.le_refl _) _)
 have HS4:Hid (SB w4.heap.size [99] ⟨2026,1,5⟩ 30 (.slice A4 1 cap4) (w4.alloc (.cells (srcells [99] ⟨2026,1,5⟩ 30 (.slice A4 1 cap4)).toArray 27))):=jq5 rfl
 clear hv
 go_wp2_with (refine jq4 rfl 27 _ _ rfl rfl (srcells [99] ⟨2026,1,5⟩ 30 (.slice A4 1 cap4)).toArray rfl jz4 (jz5 _ _ _ _ ⟨_,_,_,rfl⟩) (by rfl) ?_)
 generalize hq4:w4.heap.size=q4 at*
 clear HB4 hq4
 generalize w4.alloc (.cells (srcells [99] ⟨2026,1,5⟩ 30 (.slice A4 1 cap4)).toArray 27)=u4 at*
 have K4:Hid (Wks u4):=K3.o.below HB4'.o
 refine (parse_no _ _ (by decide) K4.o _ _ parse_h5).mono ?_
 rintro e w5 ⟨rfl,hb⟩
 have HB5:Hid (Below u4.heap.size u4 w5):=hb;clear hb
 have HB5':Hid (Below u4.heap.size u4 (w5.alloc (.cells (srcells [] civ0 0 nil).toArray 27))):=HB5.o.alloc HB5.o.size _
 have HB14:Hid (Below u1.heap.size u1 u4):=HB2'.o.trans ((HB3'.o.trans (HB4'.o.mono HB3'.o.size)).mono HB2'.o.size)
 have HB15:Hid (Below u1.heap.size u1 (w5.alloc (.cells (srcells [] civ0 0 nil).toArray 27))):=HB14.o.trans (HB5'.o.mono HB14.o.size)
 have HB05:Hid (Below w.heap.size w (w5.alloc (.cells (srcells [] civ0 0 nil).toArray 27))):=HB1'.o.trans (HB15.o.mono HB1'.o.size)
 have S1:Hid (SB q1 [99] ⟨2026,1,5⟩ 30 (.slice A1 1 cap1) (w5.alloc (.cells (srcells [] civ0 0 nil).toArray 27))):=(HB15.o.block q1 (jq7 HS1.o)).trans HS1.o
 have S4:Hid (SB q4 [99] ⟨2026,1,5⟩ 30 (.slice A4 1 cap4) (w5.alloc (.cells (srcells [] civ0 0 nil).toArray 27))):=(HB5'.o.block q4 (jq7 HS4.o)).trans HS4.o
 have V1:=hdd (HV1.o.below HB15.o)
 have V4:=hdd (HV4.o.below HB5'.o)
 clear HB1' HB2' HB3' HB4' HB5' HB14 HB15 HS1 HS4 HV1 HV4 K1 K2 K3 K4
 obtain ⟨u5,hu5⟩: ∃u5,w5.alloc (.cells (srcells [] civ0 0 nil).toArray 27)=u5:=⟨_,rfl⟩
 rw [hu5] at HB05 S1 S4 V1 V4
 have HU5:=hdd hu5;clear hu5
 obtain ⟨g1,o1,ca1,x1,x2,x3,x4,e1,hg1,r1,_,_⟩:=view1 V1.o
 injection e1 with e1 _ e1'
 subst e1 e1'
 obtain ⟨g4,o4,ca4,y1,y2,y3,y4,e4,hg4,r4,⟨f1,f2,f3⟩,f4⟩:=view1 V4.o
 injection e4 with e4 _ e4'
 subst e4 e4'
 obtain ⟨g5,o5,ca5,e5,hg5,hr5⟩:=f1.at (by simp [hx4])
 obtain ⟨B2,n2,c2,e2⟩:=f2.form
 obtain ⟨B3,n3,c3,e3⟩:=f3.form
 obtain ⟨B6,n6,c6,e6⟩:=f4.form
 have r5:=hr5 1 _ rfl
 have hlen5:(hx4.flat.conds.map cval).length=2:=rfl
 rw [hlen5] at e5
 subst e5 e2 e3 e6
 have HR4:=hdd r4
 have z5:u5.cell? ⟨q1,5,none⟩=some (.slice (some ⟨g1,o1,none⟩) 1 cap1):=jq0 S1.o 5
 have y5:u5.cell? ⟨q4,5,none⟩=some (.slice (some ⟨g4,o4,none⟩) 1 cap4):=jq0 S4.o 5
 have y13:u5.cell? ⟨g4,o4+13,none⟩=some (.slice (some ⟨g5,o5,none⟩) 2 ca5):=r4 13 _ rfl
 obtain ⟨u6,hu6⟩: ∃u6,u5.alloc (.cells (icells hx4.flat (.slice (some ⟨g5,o5,none⟩) 2 ca5) (.slice B2 n2 c2) (.slice B3 n3 c3) (.slice B6 n6 c6)).toArray 57)=u6:=⟨_,rfl⟩
 have hb6:Below u5.heap.size u5 u6:=by rw [←hu6];exact (Below.refl _ u5).alloc (Nat.le_refl _) _
 have I6:IB u5.heap.size hx4.flat (.slice (some ⟨g5,o5,none⟩) 2 ca5) (.slice B2 n2 c2) (.slice B3 n3 c3) (.slice B6 n6 c6) u6:=by rw [←hu6];exact jq5 rfl
 have HU6:=hdd hu6;clear hu6
 have HB06:Hid (Below w.heap.size w u6):=HB05.o.trans (hb6.mono HB05.o.size)
 have S16:SB q1 [99] ⟨2026,1,5⟩ 30 (.slice (some ⟨g1,o1,none⟩) 1 cap1) u6:=(hb6.block q1 (jq7 S1.o)).trans S1.o
 have Hb1:Hid (u6.cell? ⟨q1,1,none⟩=some (.int .i64 2026)):=jq0 S16 1
 have Hb2:Hid (u6.cell? ⟨q1,2,none⟩=some (.int .i64 1)):=jq0 S16 2
 have Hb3:Hid (u6.cell? ⟨q1,3,none⟩=some (.int .i64 5)):=jq0 S16 3
 have Hb4:Hid (u6.cell? ⟨q1,4,none⟩=some (.int .i64 30)):=jq0 S16 4
 have Hb5:Hid (u6.cell? ⟨q1,5,none⟩=some (.slice (some ⟨g1,o1,none⟩) 1 cap1)):=jq0 S16 5
 have Ha0:Hid (u6.cell? ⟨g1,o1,none⟩=some (.int .i64 1)):=(hb6.cell (p:=⟨g1,_,none⟩) hg1).trans (r1 0 _ rfl)
 have Ha1:Hid (u6.cell? ⟨g1,o1+1,none⟩=some (.string ⟨#[112,97,114,116,121]⟩)):=(hb6.cell (p:=⟨g1,_,none⟩) hg1).trans (r1 1 _ rfl)
 have Ha2:Hid (u6.cell? ⟨g1,o1+2,none⟩=some (.int .i64 38)):=(hb6.cell (p:=⟨g1,_,none⟩) hg1).trans (r1 2 _ rfl)
 have Hk0:Hid (u6.cell? ⟨g5,o5+2,none⟩=some (.string ⟨#[101]⟩)):=(hb6.cell (p:=⟨g5,_,none⟩) hg5).trans (r5 0 _ rfl)
 have Hk1:Hid (u6.cell? ⟨g5,o5+2+1,none⟩=some (.int .i64 4)):=(hb6.cell (p:=⟨g5,_,none⟩) hg5).trans (r5 1 _ rfl)
 have Hi6:Hid (u6.cell? ⟨u5.heap.size,6,none⟩=some (.int .i64 1)):=jq0 I6 6
 have Hi7:Hid (u6.cell? ⟨u5.heap.size,7,none⟩=some (.int .i64 3)):=jq0 I6 7
 have Hi8:Hid (u6.cell? ⟨u5.heap.size,8,none⟩=some (.bool true)):=jq0 I6 8
 have Hi9:Hid (u6.cell? ⟨u5.heap.size,9,none⟩=some (.string ⟨#[]⟩)):=jq0 I6 9
 have Hi10:Hid (u6.cell? ⟨u5.heap.size,10,none⟩=some (.int .i64 0)):=jq0 I6 10
 have Hi11:Hid (u6.cell? ⟨u5.heap.size,11,none⟩=some (.bool false)):=jq0 I6 11
 have Hi12:Hid (u6.cell? ⟨u5.heap.size,12,none⟩=some (.string ⟨#[115]⟩)):=jq0 I6 12
 have Hi13:Hid (u6.cell? ⟨u5.heap.size,13,none⟩=some (.slice (some ⟨g5,o5,none⟩) 2 ca5)):=jq0 I6 13
 have Hi16:Hid (u6.cell? ⟨u5.heap.size,16,none⟩=some (.int .i64 5)):=jq0 I6 16
 have Hi17:Hid (u6.cell? ⟨u5.heap.size,17,none⟩=some (.int .i64 2)):=jq0 I6 17
 have Hi18:Hid (u6.cell? ⟨u5.heap.size,18,none⟩=some (.string ⟨#[69,85,82]⟩)):=jq0 I6 18
 have Hi20:Hid (u6.cell? ⟨u5.heap.size,20,none⟩=some (.bool true)):=jq0 I6 20
 have Hi22:Hid (u6.cell? ⟨u5.heap.size,22,none⟩=some (.string ⟨#[102]⟩)):=jq0 I6 22
 clear V1 V4 S1 S4 S16 I6 r1 r4 r5 hr5 f1 f2 f3 f4 hlen5 hb6 HB05 HW
 go_upto_region 6 with (refine jq4 rfl 27 _ _ rfl rfl (srcells [] civ0 0 nil).toArray rfl jz4 (jz5 _ _ _ _ ⟨_,_,_,rfl⟩) (by rfl) ?_;rw [HU5.o])
 go_upto_region 8 with fail
 go_upto_region 9 with (first|(refine wpList_load_mid rfl 57 _ rfl g4 o4 rfl (icells hx4.flat (.slice (some ⟨g5,o5,none⟩) 2 ca5) (.slice B2 n2 c2) (.slice B3 n3 c3) (.slice B6 n6 c6)) _ HR4.o Tryd.underlying57 rfl (jx6 _ _ _ _ _) ?_)|(refine jq4 rfl 57 _ _ rfl rfl (icells hx4.flat (.slice (some ⟨g5,o5,none⟩) 2 ca5) (.slice B2 n2 c2) (.slice B3 n3 c3) (.slice B6 n6 c6)).toArray rfl info_item (ic1 ..) (by rfl) ?_;rw [HU6.o]))
 have b1:=Hb1.o
 have b2:=Hb2.o
 have b3:=Hb3.o
 have b4:=Hb4.o
 have b5:=Hb5.o
 have a0:=Ha0.o
 have a1:=Ha1.o
 have a2:=Ha2.o
 have q1':=eqh_1
 clear z5 y5 y13 HR4 HU5 HU6
 go_upto_region 10 with fail
 clear q1' b1 b2 b3 b4 b5 a0 a1 a2
 have k0:=Hk0.o
 have k1:=Hk1.o
 have i6:=Hi6.o
 have i7:=Hi7.o
 have i8:=Hi8.o
 have i9:=Hi9.o
 have i10:=Hi10.o
 have i11:=Hi11.o
 have i12:=Hi12.o
 have i13:=Hi13.o
 have i16:=Hi16.o
 have i17:=Hi17.o
 have i18:=Hi18.o
 have i20:=Hi20.o
 have i22:=Hi22.o
 have q2':=eqh_2
 have q3':=eqh_3
 have q4':=eqh_4
 have q5':=eqh_5
 go_wp2_with fail
 go_ret
 exact ⟨rfl,HB06.o⟩
end Go.Proofs.YtfaflipphkoiiaaDoor.Pr
