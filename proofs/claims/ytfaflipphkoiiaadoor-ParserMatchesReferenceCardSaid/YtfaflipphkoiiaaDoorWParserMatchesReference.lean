/-
  The walk of the statement ParserMatchesReference: it returns true for every text.
-/
import Derived.Test.YtfaflipphkoiiaaDoorRpU
import Derived.Test.YtfaflipphkoiiaaDoorParSame
import Derived.Test.YtfaflipphkoiiaaDoorParHead
set_option maxHeartbeats 64000000
set_option maxRecDepth 100000
set_option linter.unusedVariables false
namespace Go.Proofs.YtfaflipphkoiiaaDoor
open Go.RowKit Mem Pr
open Lx (Tok bs jx7)
def mtree (x:Bytes):Pr.Source:=match parse x with| .error _=>⟨[],⟨0,0,0⟩,0,[]⟩| .ok t=>t
theorem parse_m (s:ByteArray) (w:World) (hs:s.size≤9223372036854775807) (hw:Wks w):
  Calls Tryd.prog 11 #[.string s] w fun e w'=>(∃si,e= .returned (.tuple #[.agg (srcells (mtree (bs s)).name (mtree (bs s)).frm (mtree (bs s)).days si).toArray,.int .i64 (perr (bs s)),.int .i64 (ppos (bs s))])∧VItems w' (mtree (bs s)).items si)∧Below w.heap.size w w':=by
 unfold perr ppos mtree
 cases h:parse (bs s) with
 |error x=>
  obtain ⟨er,p⟩:=x
  exact (parse_no s w hs hw er p h).mono fun e w' ⟨he,hb⟩=>⟨⟨_,he,[],rfl,Row.nil w' 33,fun p hp=>by cases hp⟩,hb⟩
 |ok src=>exact (parse_okv s w hs hw src h).mono fun e w' ⟨⟨si,he,hv⟩,hb⟩=>⟨⟨si,he,hv⟩,hb⟩
theorem ref_m (s:ByteArray) (w:World) (hs:s.size≤9223372036854775807):
  Calls Tryd.prog 12 #[.string s] w fun e w'=>(∃si,e= .returned (.tuple #[.agg (srcells (mtree (bs s)).name (mtree (bs s)).frm (mtree (bs s)).days si).toArray,.int .i64 (perr (bs s)),.int .i64 (ppos (bs s))])∧VItems w' (mtree (bs s)).items si)∧Below w.heap.size w w':=by
 refine (Rp.parse_any s w hs).mono fun e w' ⟨he,hb⟩=>⟨?_,hb⟩
 unfold ParseEnd at he
 unfold perr ppos mtree
 cases h:parse (bs s) with
 |error x=>
  obtain ⟨er,p⟩:=x
  rw [h] at he
  exact ⟨_,he,[],rfl,Row.nil w' 33,fun p hp=>by cases hp⟩
 |ok src=>
  rw [h] at he
  obtain ⟨si,he,hr⟩:=he
  exact ⟨si,he,VItems.of hr⟩
theorem walk_ParserMatchesReference (s:ByteArray) (hs:s.size≤maxLen) (w:World) (hw:Wks w):
  Calls Tryd.prog 3 #[.string s] w fun e w'=>e= .returned (.bool true)∧Below w.heap.size w w':=by
 unfold maxLen at hs
 have HW:=hdd hw;clear hw
 by_cases h3:30000<s.size
 ·go_enter Tryd.func3,Tryd.ntmps3
  go_wp2_with fail
  refine (head_any _ HW.o).mono ?_
  rintro e w1 ⟨rfl,hb1⟩
  have HB1:=hdd hb1;clear hb1
  go_wp2_with fail
  go_ret
  exact ⟨rfl,HB1.o⟩
 ·go_enter Tryd.func3,Tryd.ntmps3
  go_wp2_with fail
  refine (head_any _ HW.o).mono ?_
  rintro e w1 ⟨rfl,hb1⟩
  have HB1:=hdd hb1;clear hb1
  go_wp2_with fail
  refine (parse_m s _ (by omega) (HW.o.below HB1.o)).mono ?_
  generalize hT:mtree (bs s)=T
  generalize hpe:perr (bs s)=pe
  generalize hpi:ppos (bs s)=pi
  have HT:=hdd hT;have HPE:=hdd hpe;have HPI:=hdd hpi
  clear hT hpe hpi
  rintro e w4 ⟨⟨si,rfl,hv⟩,hb4⟩
  obtain ⟨A4,n4,c4,rfl⟩:=hv.slice
  have HB4:=hdd (HB1.o.trans (hb4.mono HB1.o.size));clear hb4 HB1
  have HB5:Hid (Below w.heap.size w (w4.alloc (.cells (srcells T.name T.frm T.days (.slice A4 n4 c4)).toArray 27))):=HB4.o.alloc HB4.o.size _
  have HS5:Hid (SB w4.heap.size T.name T.frm T.days (.slice A4 n4 c4) (w4.alloc (.cells (srcells T.name T.frm T.days (.slice A4 n4 c4)).toArray 27))):=jq5 rfl
  have HV5:=hdd (hv.below ((Below.refl _ w4).alloc (Nat.le_refl _) (.cells (srcells T.name T.frm T.days (.slice A4 n4 c4)).toArray 27)))
  clear hv HB4
  go_upto_region 5 with (refine jq4 rfl 27 _ _ rfl rfl (srcells T.name T.frm T.days (.slice A4 n4 c4)).toArray rfl jz4 (jz5 _ _ _ _ ⟨_,_,_,rfl⟩) (by rfl) ?_)
  generalize (w4.alloc (.cells (srcells T.name T.frm T.days (.slice A4 n4 c4)).toArray 27))=u5 at*
  go_wp2_with fail
  refine (ref_m s _ (by omega)).mono ?_
  rw [HT.o,HPE.o,HPI.o]
  rintro e w6 ⟨⟨ti,rfl,hv⟩,hb6⟩
  obtain ⟨A6,n6,c6,rfl⟩:=hv.slice
  have HB6:=hdd (HB5.o.trans (hb6.mono HB5.o.size))
  have HB7:Hid (Below w.heap.size w (w6.alloc (.cells (srcells T.name T.frm T.days (.slice A6 n6 c6)).toArray 27))):=HB6.o.alloc HB6.o.size _
  have hbb:Below u5.heap.size u5 (w6.alloc (.cells (srcells T.name T.frm T.days (.slice A6 n6 c6)).toArray 27)):=hb6.alloc hb6.size _
  have HS7:Hid (SB w4.heap.size T.name T.frm T.days (.slice A4 n4 c4) (w6.alloc (.cells (srcells T.name T.frm T.days (.slice A6 n6 c6)).toArray 27))):=(hbb.block _ (jq7 HS5.o)).trans HS5.o
  have HT7:Hid (SB w6.heap.size T.name T.frm T.days (.slice A6 n6 c6) (w6.alloc (.cells (srcells T.name T.frm T.days (.slice A6 n6 c6)).toArray 27))):=jq5 rfl
  have HV7:=hdd (HV5.o.below hbb)
  have HU7:=hdd (hv.below ((Below.refl _ w6).alloc (Nat.le_refl _) (.cells (srcells T.name T.frm T.days (.slice A6 n6 c6)).toArray 27)))
  clear HV5 HB5 HB6 HS5 hbb hb6 hv
  go_upto_region 6 with (refine jq4 rfl 27 _ _ rfl rfl (srcells T.name T.frm T.days (.slice A6 n6 c6)).toArray rfl jz4 (jz5 _ _ _ _ ⟨_,_,_,rfl⟩) (by rfl) ?_)
  generalize (w6.alloc (.cells (srcells T.name T.frm T.days (.slice A6 n6 c6)).toArray 27))=u7 at*
  clear HT HPE HPI
  have hpp:(pe==pe)=true:=by simp
  have hpq:(pi==pi)=true:=by simp
  go_wp2_with (first|(refine jj3 (op:=⟨some 29,_,_,_,_,_⟩) ?hw 27 _ rfl w4.heap.size 0 rfl (srcells T.name T.frm T.days (.slice A4 n4 c4)) _ (range_of_blk HS7.o) Tryd.underlying27 rfl jz4 ?_;(case hw=>rfl))|(refine jj3 (op:=⟨some 30,_,_,_,_,_⟩) ?hw 27 _ rfl w6.heap.size 0 rfl (srcells T.name T.frm T.days (.slice A6 n6 c6)) _ (range_of_blk HT7.o) Tryd.underlying27 rfl jz4 ?_;(case hw=>rfl)))
  refine (same_true true T T _ _ u7 rfl rfl rfl (All2.refl (EqI.refl true) _) HV7.o HU7.o).mono ?_
  rintro e w8 ⟨rfl,hb8⟩
  have HB8:=hdd (HB7.o.trans (hb8.mono HB7.o.size))
  clear hb8 HB7 HV7 HU7 HS7 HT7
  go_wp2_with fail
  go_ret
  exact ⟨rfl,HB8.o⟩
end Go.Proofs.YtfaflipphkoiiaaDoor
