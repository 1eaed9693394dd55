/-
  What some functions of the reference's parser return (printed by mkrp13.py): Parse.
-/
import Derived.Test.YtfaflipphkoiiaaDoorPkRpD
import Derived.Test.YtfaflipphkoiiaaDoorPkLexR
import Derived.Test.YtfaflipphkoiiaaDoorPkParD
set_option maxHeartbeats 64000000
set_option maxRecDepth 100000
set_option linter.unusedVariables false
namespace Go.Proofs.YtfaflipphkoiiaaDoor.Rp
open Go.RowKit Mem Pr
open Lx (Tok isDigit isLetter isSym)
open Lx (bs cellsAll cellsOf)
theorem ritemsMore_end (f:Nat) (s:St) (h:s.err≠0∨s.rest= []):ritemsMore f s=([],s):=by
 cases f with
 |zero=>rfl
 |succ f=>
  have:(s.err==0&&!s.rest.isEmpty)=false:=by rcases h with h|h<;>simp [h]
  simp [ritemsMore,Pr.bnd,more,this,Pr.ret]
theorem ritemsMore_succ (f:Nat) (s:St) (h:s.err=0) (hr:s.rest≠ []):ritemsMore (f+1) s=((ritem s).1::(ritemsMore f (ritem s).2).1,(ritemsMore f (ritem s).2).2):=by
 have:(s.err==0&&!s.rest.isEmpty)=true:=by
  cases hq:s.rest with
  |nil=>exact absurd hq hr
  |cons t r=>simp [h]
 show Pr.bnd more (fun g=>if g then Pr.bnd ritem fun x=>Pr.bnd (ritemsMore f) fun l=>Pr.ret (x::l) else Pr.ret []) s=_
 unfold Pr.bnd more
 simp only [this,if_true]
 rfl
theorem ritem_prog (s:St) (hw:Wts s):(ritem s).2.rest.length≤s.rest.length∧((ritem s).2.err=0→(ritem s).2.rest.length<s.rest.length):=by
 rw [(Ag.ritem s hw).1]
 exact item_prog s
theorem After2.grown {E:Env} {b q:Nat} {s:St} {W W1 w4:World} {v:Value} {o:Obj} (h:After2 E b q s W W1) (hg:(W1.alloc o).grownBy w4 v.ownBlock) (hv: ∀g,v.ownBlock=some g→W.heap.size≤g) (hb:b<W.heap.size):After2 E b q s W w4:=by
 have h2:Fr (fun k=>W.heap.size≤k) W1 w4:=((Fr.refl _ _).alloc o).grown hg (fun k hk=> .inl (hv k hk))
 exact ⟨h.1.fr h2 (fun k hk hs=>by omega),h.2.trans' h2 (fun i hi hs=>by omega)⟩
theorem PW_start {w1:World} {base cap size:Nat} {A:Option Addr} {ts:List Tok} (hO:w1.ownsRow base 40 4 (.slice A ts.length cap) ts.length (cellsAll ts)) (hw: ∀t∈ts,Wt t) (hl:ts.length≤5000):
  PW ⟨ts,A,cap,size⟩ w1.heap.size ⟨ts,0,0⟩ (w1.alloc (.cells (pcells ⟨ts,A,cap,size⟩ 0 ⟨ts,0,0⟩) 71)):=by
 refine ⟨hl,Nat.zero_le _,by simp,⟨hw,?_⟩,0,Nat.zero_le _,rfl,kx5 _ _⟩
 intro hp
 obtain ⟨g,o,hA,hg,hc⟩:=toks_of_own hO hp
 refine ⟨g,o,hA,hg,fun i hi=>?_⟩
 obtain ⟨a0,a1,a2,a3⟩:=hc i hi
 exact ⟨(World.cell?_alloc_lt w1 _ _ hg).trans a0,(World.cell?_alloc_lt w1 _ _ hg).trans a1,(World.cell?_alloc_lt w1 _ _ hg).trans a2,(World.cell?_alloc_lt w1 _ _ hg).trans a3⟩
theorem lexEnd_ok {s:ByteArray} {w:World} (hs:s.size≤9223372036854775807) {ts:List Tok} (h:Lx.lex (bs s)= .ok ts):
  Calls Tryd.prog 23 #[.string s] w fun e w'=>(∃A cap,e= .returned (.tuple #[.slice A ts.length cap,.int .i64 0,.int .i64 0])∧w'.ownsRow w.heap.size 40 4 (.slice A ts.length cap) ts.length (cellsAll ts))∧Below w.heap.size w w':=by
 refine (Lx.refLex_any s w hs).mono fun e w' ⟨h1,h2⟩=>⟨?_,h2⟩
 unfold Lx.LexEnd at h1
 rw [h] at h1
 exact h1
theorem lexEnd_no {s:ByteArray} {w:World} (hs:s.size≤9223372036854775807) {er:Nat} {p:Int} (h:Lx.lex (bs s)= .error (er,p)):
  Calls Tryd.prog 23 #[.string s] w fun e w'=>e= .returned (.tuple #[.slice none 0 0,.int .i64 er,.int .i64 p])∧Below w.heap.size w w':=by
 refine (Lx.refLex_any s w hs).mono fun e w' ⟨h1,h2⟩=>⟨?_,h2⟩
 unfold Lx.LexEnd at h1
 rw [h] at h1
 exact h1
def SRel (E:Env) (b q:Nat) (n:Bytes) (c:Civil) (k:Nat) (w0:World) (R:List Pr.Item) (sr:St) (wr:World):Prop:=
 ∃(l:List Pr.Item) (s':St) (f:Nat) (vs:List Sl) (si:Value),SB q n c k si wr∧RowSv w0.heap.size l vs si wr∧After2 E b q s' w0 wr∧(s'.err=0→s'.rest.length<f)∧l.length+s'.rest.length+(if s'.err=0 then 1 else 0)≤5002∧(l++(ritemsMore f s').1,(ritemsMore f s').2)=(R,sr)
theorem ent_ritem (args:Array Value) (W:World):(callFunc 28 args).run Tryd.prog W= .ok (.enter 28 args) W:=by kernel_rfl
theorem parse_lexerr (s:ByteArray) (w:World) (hs:s.size≤9223372036854775807) (er:Nat) (p:Int) (hL:Lx.lex (bs s)= .error (er,p)):
  Calls Tryd.prog 12 #[.string s] w fun e w'=>ParseEnd s w.heap.size e w'∧Below w.heap.size w w':=by
 have hne:=lex_err_ne hL
 have HPE:Hid (Pr.parse (bs s)= .error (er,p)):=by show Pr.parse (bs s)=_;unfold Pr.parse;rw [hL]
 have HL:=hdd hL;clear hL
 have hb0:((er:Int) !=0)=true:=by rw [bne_iff_ne];omega
 go_enter Tryd.func12,Tryd.ntmps12
 go_wp2_with fail
 refine (lexEnd_no hs HL.o).mono ?_
 rintro e w1 ⟨rfl,hb⟩
 have HR1:Hid (SB w.heap.size [] civ0 0 nil w1):=(hb.block w.heap.size (by simp)).trans (jq5 (by simp))
 have HB1:=hdd (((Below.refl w.heap.size w).alloc (Nat.le_refl _) _).trans (below_le hb (by simp)));clear hb
 have hl:(loadVar 27 ⟨w.heap.size,0,none⟩).run Tryd.prog (w1.setCells w.heap.size 0 (srcells [] civ0 0 nil).toArray.toList)= .ok (.agg (srcells [] civ0 0 nil).toArray) (w1.setCells w.heap.size 0 (srcells [] civ0 0 nil).toArray.toList):=by
  rw [List.toList_toArray]
  exact run_loadVar_mid _ _ _ _ (srcells [] civ0 0 nil) _ (World.rangeAt_setCells_same _ _ _ _ HR1.o.there) Tryd.underlying27 rfl jz4
 have HB9:=hdd (jk9 (Nat.le_refl _) (srcells [] civ0 0 nil).toArray.toList 0 w1 HB1.o)
 generalize hw9:w1.setCells w.heap.size 0 (srcells [] civ0 0 nil).toArray.toList=w9 at*
 have HL9:=hdd hl;have HW9:=hdd hw9
 clear hl hw9
 go_wp2_with (first|(refine wpList_build rfl 27 _ rfl #[] ?_ _ (build_src _) ?_;(simp))|(refine wpList_store_mid rfl 27 _ _ rfl w.heap.size 0 (srcells [] civ0 0 nil).toArray rfl rfl HR1.o.there jz4 (jz5 _ _ _ _ ⟨_,_,_,rfl⟩) ?_;rw [HW9.o]))
 exact bodyPost_ret (jj2 Tryd.results12 rfl rfl rfl HL9.o) rfl ⟨ParseEnd.of_err HPE.o rfl,HB9.o⟩
theorem parse_src (s:ByteArray) (w:World) (hs:s.size≤9223372036854775807) (ts:List Tok) (hL:Lx.lex (bs s)= .ok ts):
  Calls Tryd.prog 12 #[.string s] w fun e w'=>ParseEnd s w.heap.size e w'∧Below w.heap.size w w':=by
 obtain ⟨zv,hzz,hz33⟩:=info_itemz
 obtain ⟨i0,hi,hz0,hz1,hz2⟩:=info_parts hzz
 obtain ⟨u1,s1,h1⟩: ∃x s9,expect [[99,111,110,116,114,97,99,116]] ⟨ts,0,0⟩=(x,s9):=⟨_,_,rfl⟩
 obtain ⟨n,s2,h2⟩: ∃x s9,name s1=(x,s9):=⟨_,_,rfl⟩
 obtain ⟨u3,s3,h3⟩: ∃x s9,expect [[102,114,111,109]] s2=(x,s9):=⟨_,_,rfl⟩
 obtain ⟨c,s4,h4⟩: ∃x s9,Pr.date s3=(x,s9):=⟨_,_,rfl⟩
 obtain ⟨u5,s5,h5⟩: ∃x s9,expect [[102,111,114]] s4=(x,s9):=⟨_,_,rfl⟩
 obtain ⟨k,s6,h6⟩: ∃x s9,Pr.number s5=(x,s9):=⟨_,_,rfl⟩
 obtain ⟨u7,s7,h7⟩: ∃x s9,expect [[100,97,121,115]] s6=(x,s9):=⟨_,_,rfl⟩
 obtain ⟨u8,s8,h8⟩: ∃x s9,expect [[59]] s7=(x,s9):=⟨_,_,rfl⟩
 obtain ⟨R,sr,h9⟩: ∃R sr,long ritemsMore s8=(R,sr):=⟨_,_,rfl⟩
 have hh:rheader ⟨ts,0,0⟩=(⟨n,c,k,[]⟩,s8):=by
  unfold rheader
  rw [jx1 h1,jq3 h2,jx1 h3,jq3 h4,jx1 h5,jq3 h6,jx1 h7,jx1 h8]
  rfl
 have hp:rsource ⟨ts,0,0⟩=(⟨n,c,k,R⟩,sr):=by
  unfold rsource
  rw [jq3 hh,jq3 h9]
  rfl
 have hps:Pr.parse (bs s)=if sr.err=0 then .ok ⟨n,c,k,R⟩ else .error (sr.err,(atOf s.size sr:Nat)):=by
  rw [←rparse_eq]
  unfold rparse
  rw [hL]
  simp only [hp,Lx.jx7]
 have HPS:=hdd hps
 have HWT:=hdd (lex_wt hL)
 have HLN:=hdd (lex_len hL)
 have HL:=hdd hL
 have H1:=hdd h1;have H2:=hdd h2;have H3:=hdd h3;have H4:=hdd h4;have H5:=hdd h5;have H6:=hdd h6;have H7:=hdd h7;have H8:=hdd h8;have H9:=hdd h9
 clear hps hL hh hp hzz h1 h2 h3 h4 h5 h6 h7 h8 h9
 go_enter Tryd.func12,Tryd.ntmps12
 go_wp2_with fail
 refine (lexEnd_ok hs HL.o).mono ?_
 rintro e w1 ⟨⟨A,cap,rfl,hO⟩,hb⟩
 have HR1:Hid (SB w.heap.size [] civ0 0 nil w1):=(hb.block w.heap.size (by simp)).trans (jq5 (by simp))
 have HB1:Hid (Below w.heap.size w w1):=((Below.refl w.heap.size w).alloc (Nat.le_refl _) _).trans (below_le hb (by simp))
 have HO:=hdd hO
 have hsz1:w.heap.size<w1.heap.size:=jq7 HR1.o
 clear hb hO
 obtain ⟨b,HBN⟩: ∃b,Hid (w1.heap.size=b):=⟨_,rfl⟩
 obtain ⟨wa,hwa⟩: ∃u,w1.alloc (.cells (pcells ⟨ts,A,cap,s.size⟩ 0 ⟨ts,0,0⟩) 71)=u:=⟨_,rfl⟩
 have HPA:Hid (PW ⟨ts,A,cap,s.size⟩ b ⟨ts,0,0⟩ wa):=by have:=PW_start (size:=s.size) HO.o HWT.o HLN.o;rw [hwa,HBN.o] at this;exact this
 have HRA:Hid (SB w.heap.size [] civ0 0 nil wa):=by rw [←hwa];exact jq9 HR1.o _
 have HBA:Hid (Below w.heap.size w wa):=by rw [←hwa];exact HB1.o.alloc (by omega) _
 have HWA:Hid (w1.alloc (.cells #[.slice A ts.length cap,.int .i64 0,.int .i64 (s.size:Int),.int .i64 0,.int .i64 0,.int .i64 0] 71)=wa):=hwa
 have hbn:=HBN.o
 clear hwa
 go_upto_region 5 with fail
 rw [HWA.o]
 try rw [hbn]
 clear HWA HBN HR1 HB1 HO
 have hba:=HPA.o.2.2.1
 obtain ⟨q,HQN⟩: ∃q,Hid (wa.heap.size=q):=⟨_,rfl⟩
 obtain ⟨w2,hw2⟩: ∃u,wa.alloc (.cells (srcells [] civ0 0 nil).toArray 27)=u:=⟨_,rfl⟩
 have hbq:b<q:=by have:=HQN.o;omega
 have HS:Hid (SB q [] civ0 0 nil w2):=by rw [←hw2];exact jq5 HQN.o.symm
 have HR:Hid (SB w.heap.size [] civ0 0 nil w2):=by rw [←hw2];exact jq9 HRA.o _
 have HA:Hid (After2 ⟨ts,A,cap,s.size⟩ b q ⟨ts,0,0⟩ w2 w2):=by rw [←hw2];exact After2.start (HPA.o.alloc _)
 have HB2:Hid (Below w.heap.size w w2):=by rw [←hw2];exact HBA.o.alloc (by omega) _
 have HW2:Hid (wa.alloc (.cells #[.string ⟨#[]⟩,.int .i64 0,.int .i64 0,.int .i64 0,.int .i64 0,.slice none 0 0] 27)=w2):=hw2
 have hqn:=HQN.o
 have hwb:w.heap.size<b:=by omega
 clear hw2
 go_upto_region 6 with (first|(refine wpList_build rfl 27 _ rfl #[] ?_ _ (build_src _) ?_;(simp))|(refine jq4 rfl 27 _ _ rfl rfl (srcells [] civ0 0 nil).toArray rfl jz4 (jz5 _ _ _ _ ⟨_,_,_,rfl⟩) (by rfl) ?_))
 rw [HW2.o]
 try rw [hqn]
 have hq2:=jq7 HS.o
 clear HW2 HPA HRA HBA HQN hba hqn hsz1 hbn
 go_wp2_with fail
 refine (jx3 ⟨ts,A,cap,s.size⟩ b ⟨ts,0,0⟩ [99,111,110,116,114,97,99,116] _ HA.o.1 (nd_of (by decide))).mono ?_
 rw [H1.o]
 rintro e v1 ⟨rfl,hA⟩
 have GS:Hid (SB q [] civ0 0 nil v1):=hA.2.blk HS.o (by omega)
 have GR:Hid (SB w.heap.size [] civ0 0 nil v1):=hA.2.blk HR.o (by omega)
 have GA:=hdd (HA.o.trans hA)
 clear hA HS HR HA
 have HS:=hdd GS.o;have HR:=hdd GR.o;have HA:=hdd GA.o;clear GS GR GA
 go_wp2_with fail
 refine (name_any ⟨ts,A,cap,s.size⟩ b s1 _ HA.o.1).mono ?_
 rw [H2.o]
 rintro e v2 ⟨rfl,hA⟩
 have GS:Hid (SB q [] civ0 0 nil v2):=hA.2.blk HS.o (by omega)
 have GR:Hid (SB w.heap.size [] civ0 0 nil v2):=hA.2.blk HR.o (by omega)
 have GA:=hdd (HA.o.trans hA)
 clear hA HS HR HA
 have HS:=hdd GS.o;have HR:=hdd GR.o;have HA:=hdd GA.o;clear GS GR GA
 have k_0:v2.cell? ⟨q,0,none⟩=some (.string ⟨#[]⟩):=jq0 HS.o 0
 have f_0:v2.frozen? ⟨q,0,none⟩=false:=jq1 HS.o 0
 go_wp2_with fail
 refine (jx3 ⟨ts,A,cap,s.size⟩ b s2 [102,114,111,109] _ (HA.o.set (i:=0) hbq (.string ⟨n.toArray⟩)).1 (nd_of (by decide))).mono ?_
 rw [H3.o]
 rintro e v3 ⟨rfl,hA⟩
 have GS:Hid (SB q n civ0 0 nil v3):=hA.2.blk (SB.set_n HS.o n) (by omega)
 have GR:Hid (SB w.heap.size [] civ0 0 nil v3):=hA.2.blk (jq2 HR.o (by omega) _) (by omega)
 have GA:=hdd ((HA.o.set (i:=0) hbq (.string ⟨n.toArray⟩)).trans hA)
 clear hA HS HR HA k_0 f_0
 have HS:=hdd GS.o;have HR:=hdd GR.o;have HA:=hdd GA.o;clear GS GR GA
 go_wp2_with fail
 refine (date_any ⟨ts,A,cap,s.size⟩ b s3 _ HA.o.1).mono ?_
 rw [H4.o]
 rintro e v4 ⟨rfl,hA⟩
 have GS:Hid (SB q n civ0 0 nil v4):=hA.2.blk HS.o (by omega)
 have GR:Hid (SB w.heap.size [] civ0 0 nil v4):=hA.2.blk HR.o (by omega)
 have GA:=hdd (HA.o.trans hA)
 clear hA HS HR HA
 have HS:=hdd GS.o;have HR:=hdd GR.o;have HA:=hdd GA.o;clear GS GR GA
 have k_1:v4.cell? ⟨q,1,none⟩=some (.int .i64 0):=jq0 HS.o 1
 have f_1:v4.frozen? ⟨q,1,none⟩=false:=jq1 HS.o 1
 have k_2:v4.cell? ⟨q,2,none⟩=some (.int .i64 0):=jq0 HS.o 2
 have f_2:v4.frozen? ⟨q,2,none⟩=false:=jq1 HS.o 2
 have k_3:v4.cell? ⟨q,3,none⟩=some (.int .i64 0):=jq0 HS.o 3
 have f_3:v4.frozen? ⟨q,3,none⟩=false:=jq1 HS.o 3
 go_wp2_with fail
 refine (jx3 ⟨ts,A,cap,s.size⟩ b s4 [102,111,114] _ (((HA.o.set (i:=1) hbq (.int .i64 (c.y:Int))).set (i:=2) hbq (.int .i64 (c.m:Int))).set (i:=3) hbq (.int .i64 (c.d:Int))).1 (nd_of (by decide))).mono ?_
 rw [H5.o]
 rintro e v5 ⟨rfl,hA⟩
 have GS:Hid (SB q n c 0 nil v5):=hA.2.blk (SB.set_c HS.o c) (by omega)
 have GR:Hid (SB w.heap.size [] civ0 0 nil v5):=hA.2.blk (jq2 (jq2 (jq2 HR.o (by omega) _) (by omega) _) (by omega) _) (by omega)
 have GA:=hdd ((((HA.o.set (i:=1) hbq (.int .i64 (c.y:Int))).set (i:=2) hbq (.int .i64 (c.m:Int))).set (i:=3) hbq (.int .i64 (c.d:Int))).trans hA)
 clear hA HS HR HA k_1 f_1 k_2 f_2 k_3 f_3
 have HS:=hdd GS.o;have HR:=hdd GR.o;have HA:=hdd GA.o;clear GS GR GA
 go_wp2_with fail
 refine (number_any ⟨ts,A,cap,s.size⟩ b s5 _ HA.o.1).mono ?_
 rw [H6.o]
 rintro e v6 ⟨rfl,hA⟩
 have GS:Hid (SB q n c 0 nil v6):=hA.2.blk HS.o (by omega)
 have GR:Hid (SB w.heap.size [] civ0 0 nil v6):=hA.2.blk HR.o (by omega)
 have GA:=hdd (HA.o.trans hA)
 clear hA HS HR HA
 have HS:=hdd GS.o;have HR:=hdd GR.o;have HA:=hdd GA.o;clear GS GR GA
 have k_4:v6.cell? ⟨q,4,none⟩=some (.int .i64 0):=jq0 HS.o 4
 have f_4:v6.frozen? ⟨q,4,none⟩=false:=jq1 HS.o 4
 go_wp2_with fail
 refine (jx3 ⟨ts,A,cap,s.size⟩ b s6 [100,97,121,115] _ (HA.o.set (i:=4) hbq (.int .i64 (k:Int))).1 (nd_of (by decide))).mono ?_
 rw [H7.o]
 rintro e v7 ⟨rfl,hA⟩
 have GS:Hid (SB q n c k nil v7):=hA.2.blk (SB.set_k HS.o k) (by omega)
 have GR:Hid (SB w.heap.size [] civ0 0 nil v7):=hA.2.blk (jq2 HR.o (by omega) _) (by omega)
 have GA:=hdd ((HA.o.set (i:=4) hbq (.int .i64 (k:Int))).trans hA)
 clear hA HS HR HA k_4 f_4
 have HS:=hdd GS.o;have HR:=hdd GR.o;have HA:=hdd GA.o;clear GS GR GA
 go_wp2_with fail
 refine (jx3 ⟨ts,A,cap,s.size⟩ b s7 [59] _ HA.o.1 (nd_of (by decide))).mono ?_
 rw [H8.o]
 rintro e v8 ⟨rfl,hA⟩
 have GS:Hid (SB q n c k nil v8):=hA.2.blk HS.o (by omega)
 have GR:Hid (SB w.heap.size [] civ0 0 nil v8):=hA.2.blk HR.o (by omega)
 have GA:=hdd (HA.o.trans hA)
 clear hA HS HR HA
 have HS:=hdd GS.o;have HR:=hdd GR.o;have HA:=hdd GA.o;clear GS GR GA
 have hq0:=jq7 HS.o
 have HB0:Hid (Below w.heap.size w v8):=HB2.o.trans (HA.o.2.below (by omega) (fun k hk=>by omega))
 have hln:=HA.o.1.len
 have HA0:Hid (PW ⟨ts,A,cap,s.size⟩ b s8 v8):=HA.o.1
 clear HB2 HA
 go_wp2_with fail
 go_loopw [] (fun wr=>SRel ⟨ts,A,cap,s.size⟩ b q n c k v8 R sr wr) (fun wr=>2*lft ⟨ts,A,cap,s.size⟩ b wr+okn b wr)
 case atStart=>exact ⟨[],s8,s8.rest.length+1,[],nil,HS.o,RowSv.nil _ _,After2.start HA0.o,fun _=>by omega,by simp;split<;>omega,by have:=H9.o;unfold long at this;rw [this];rfl⟩
 case round=>
  obtain ⟨l,s',f,vs,si,hI,hRS,hA,hf,hb,hX⟩:=hrel
  have hlf:=hA.1.lft
  have hok:=hA.1.okn
  have hsz:=hA.2.size
  obtain ⟨A5,cap5,rfl⟩:=hRS.form
  obtain ⟨n0,hn1,hn2,c0,c1,_,_,c4,c5⟩:=hA.1.cells
  have hl5:=hA.1.1
  have HA:=hdd hA;clear hA
  have HI:=hdd hI;clear hI
  have HRS:=hdd hRS;clear hRS
  by_cases he:s'.err=0
  ·rw [he] at c4
   cases hr:s'.rest with
   |nil=>
    rw [ritemsMore_end f s' (.inr hr)] at hX
    have hsr:s'=sr:=by injection hX
    have hRl:l=R:=by have:=congrArg Prod.fst hX;simpa using this
    subst hRl hsr
    rw [hr] at hn2
    have hn:=drop_nil hn2 hn1
    have hlt:decide (n0<ts.length)=false:=decide_eq_false (by show ¬n0<ts.length;have:ts.length=n0:=hn.symm;omega)
    have HPE:Hid (Pr.parse (bs s)= .ok ⟨n,c,k,l⟩):=by have:=HPS.o;rw [if_pos he] at this;exact this
    clear hX he hlf hok hf hb hr hn2 hn
    go_wp2_with fail
    go_quiet (fail)
    have HA9:Hid (After2 ⟨ts,A,cap,s.size⟩ b q s' v8 (wr.drewN nq)):=HA.o.drewN nq
    have HI9:Hid (SB q n c k (.slice A5 l.length cap5) (wr.drewN nq)):=HI.o
    have HRS9:Hid (RowSv v8.heap.size l vs (.slice A5 l.length cap5) (wr.drewN nq)):=HRS.o
    have HR9:Hid (SB w.heap.size [] civ0 0 nil (wr.drewN nq)):=HA9.o.2.blk HR.o (by omega)
    have d4:(wr.drewN nq).cell? ⟨b,4,none⟩=some (.int .i64 0):=c4
    have HB9:Hid (Below w.heap.size w (wr.drewN nq)):=HB0.o.trans (HA9.o.2.below (by omega) (fun k hk=>by omega))
    clear HA HI HRS c0 c1 c4 c5
    generalize wr.drewN nq=w9 at*
    have hl:(loadVar 27 ⟨w.heap.size,0,none⟩).run Tryd.prog (w9.setCells w.heap.size 0 (srcells n c k (.slice A5 l.length cap5)).toArray.toList)= .ok (.agg (srcells n c k (.slice A5 l.length cap5)).toArray) (w9.setCells w.heap.size 0 (srcells n c k (.slice A5 l.length cap5)).toArray.toList):=by
     rw [List.toList_toArray]
     exact run_loadVar_mid _ _ _ _ (srcells n c k (.slice A5 l.length cap5)) _ (World.rangeAt_setCells_same _ _ _ _ HR9.o.there) Tryd.underlying27 rfl jz4
    have hB99:=jk9 (Nat.le_refl _) (srcells n c k (.slice A5 l.length cap5)).toArray.toList 0 w9 HB9.o
    have hRS99:RowSv w.heap.size l vs (.slice A5 l.length cap5) (w9.setCells w.heap.size 0 (srcells n c k (.slice A5 l.length cap5)).toArray.toList):=HRS9.o.carry fun e z v n xs ho=>own_base (jx5 ho (Fr.setCells (S:=fun k=>k=w.heap.size) (.inl rfl) _ _ _ (Fr.refl _ _)) (fun k hk _ e=>by omega)) (by omega)
    generalize hw99:w9.setCells w.heap.size 0 (srcells n c k (.slice A5 l.length cap5)).toArray.toList=w99 at*
    have HL99:=hdd hl;have HW99:=hdd hw99;have HB99:=hdd hB99;have HRS99:=hdd hRS99
    clear hl hw99 hB99 hRS99
    go_wp2_with (first|(refine wpList_load_mid rfl 27 _ rfl q 0 rfl (srcells n c k (.slice A5 l.length cap5)) _ HI9.o.range Tryd.underlying27 rfl jz4 ?_)|(refine wpList_store_mid rfl 27 _ _ rfl w.heap.size 0 (srcells n c k (.slice A5 l.length cap5)).toArray rfl rfl HR9.o.there jz4 (jz5 _ _ _ _ ⟨_,_,_,rfl⟩) ?_;rw [HW99.o]))
    exact bodyPost_ret (jj2 Tryd.results12 rfl rfl rfl HL99.o) rfl ⟨ParseEnd.of_ok HPE.o rfl ⟨vs,HRS99.o⟩,HB99.o⟩
   |cons t rs=>
    obtain ⟨f,rfl⟩: ∃g,f=g+1:=⟨f-1,by have:=hf he;omega⟩
    rw [ritemsMore_succ f s' he (by rw [hr];simp)] at hX
    rw [hr] at hn2
    have hn:n0<ts.length:=by obtain ⟨h,_⟩:=jz2 hn2;exact h
    have hpr:=ritem_prog s' HA.o.1.wts
    obtain ⟨x,sx,hx⟩: ∃x sx,ritem s'=(x,sx):=⟨_,_,rfl⟩
    rw [hx] at hX hpr
    have hf2:=hf he
    rw [if_pos he] at hb hok
    have hlt:decide (n0<ts.length)=true:=decide_eq_true hn
    have HX:=hdd hX;have HXX:=hdd hx;have HLF:=hdd hlf;have HOK:=hdd hok
    clear hX hx he hlf hok hf hr hn2 hn c5
    go_wp2_with fail
    go_quiet (fail)
    have HAq:Hid (After2 ⟨ts,A,cap,s.size⟩ b q s' v8 (wr.drewN nq)):=HA.o.drewN nq
    have HIq:Hid (SB q n c k (.slice A5 l.length cap5) (wr.drewN nq)):=HI.o
    have HRq:Hid (RowSv v8.heap.size l vs (.slice A5 l.length cap5) (wr.drewN nq)):=HRS.o
    have hszq:(wr.drewN nq).heap.size=wr.heap.size:=rfl
    clear HA HI HRS c0 c1 c4
    generalize wr.drewN nq=w9 at*
    have HAd:Hid (After2 ⟨ts,A,cap,s.size⟩ b q s' v8 w9.drew):=HAq.o.drewN 1
    have HId:Hid (SB q n c k (.slice A5 l.length cap5) w9.drew):=HIq.o
    have HRd:Hid (RowSv v8.heap.size l vs (.slice A5 l.length cap5) w9.drew):=HRq.o
    have hqlt:=jq7 HId.o
    have k5:w9.cell? ⟨q,5,none⟩=some (.slice A5 l.length cap5):=jq0 HId.o 5
    clear HAq HIq HRq
    go_wp2_with fail
    go_region_law (first|(refine step_call2 rfl 28 _ _ _ rfl ent_ritem (.pointer (some ⟨b,0,none⟩)) (.bool false) (by rfl) (by rfl) (item_any ⟨ts,A,cap,s.size⟩ b s' w9.drew HAd.o.1) ?_;rw [HXX.o];rintro e y2 ⟨⟨sc,sd,sn,sj,rfl,hF2,hI2⟩,hA2⟩;refine ⟨_,rfl,?_⟩;have HA2:=hdd (HAd.o.trans hA2);have HI2:Hid (SB q n c k (.slice A5 l.length cap5) y2):=(hA2.2.blk HId.o (by omega));have HF2:=hdd hF2;have HJ2:=hdd hI2;have hil:=jj6 x.flat sc sd sn sj;have hif:=fold_icells x.flat sc sd sn sj;have HFR2:=hdd hA2.2;have HR2:=hdd (HRd.o.fr hA2.2 (fun k hk _ e=>by omega));have j5:y2.cell? ⟨q,5,none⟩=some (.slice A5 l.length cap5):=(jq0 HI2.o 5);have j5a: ∀o,(y2.alloc o).cell? ⟨q,5,none⟩=some (.slice A5 l.length cap5):=(fun o=>jq0 (jq9 HI2.o o) 5);have hz2w:=hA2.2.size;clear hA2 hF2 hI2)|(refine step_append_lies _ rfl (.tmp 64) (.tmp 67) 25 rfl v8.heap.size 57 i0 _ 33 368 Tryd.underlying25 hi hz0 hz1 hz2 hz33 (by decide) (.slice A5 l.length cap5) l.length _ (by rfl) (HR2.o.2.2.1.alloc _) ⟨y2.heap.size,0,none⟩ 1 1 (icells x.flat sc sd sn sj) (by rfl) (by rfl) (World.news_of_block (cs:=(icells x.flat sc sd sn sj).toArray) (t:=57) (fr:=(0,0)) (heap_alloc_new y2 _)) (jv4 _ _ _ _ _ HF2.o.forms.1 HF2.o.forms.2.1 HF2.o.forms.2.2 HJ2.o.form) (by decide) (by simp only [maxLen];omega) (by omega) (by simp only [World.size_alloc];have:w9.drew.heap.size=w9.heap.size:=rfl;omega) (y2.heap.size+1) (by simp) ?_;intro gg cap1 w5 hown5 hgrow hat hlt5;have HS5:=hdd (HRd.o.snoc HFR2.o (fun k hk _ e=>by omega) (by show _≤w9.heap.size;omega) HF2.o HJ2.o hgrow hown5 hat);have HA5:=hdd (HA2.o.grown hgrow (fun g hg=>(own_lt HR2.o.2.2.1 g hg).1) (by omega));have HI5:Hid (SB q n c k (.slice A5 l.length cap5) w5):=(kq9 hgrow HI2.o (fun g hg e=>by have:=(own_lt HR2.o.2.2.1 g hg).1;omega));have e0:w5.cell? ⟨q,5,none⟩=some (.slice A5 l.length cap5):=(jq0 HI5.o 5);have e1:w5.frozen? ⟨q,5,none⟩=false:=(jq1 HI5.o 5);clear hown5 hgrow hat))
    all_goals
     have HI6:=hdd (SB.set_si HI5.o (.slice (some ⟨gg,0,none⟩) (l.length+1) cap1))
     have HS6:=hdd (HS5.o.set (q:=q) (i:=5) (by omega) (.slice (some ⟨gg,0,none⟩) (l.length+1) cap1))
     have HA6:=hdd (HA5.o.set (i:=5) hbq (.slice (some ⟨gg,0,none⟩) (l.length+1) cap1))
     have hlf6:=HA6.o.1.lft
     have hok6:=HA6.o.1.okn
     have HN:Hid (SRel ⟨ts,A,cap,s.size⟩ b q n c k v8 R sr (w5.setCell ⟨q,5,none⟩ (.slice (some ⟨gg,0,none⟩) (l.length+1) cap1))):=by
      refine ⟨l++ [x],sx,f,_,_,HI6.o,HS6.o,HA6.o,fun he=>by have:=hpr.2 he;omega,?_,by rw [←HX.o];simp⟩
      rw [List.length_append]
      simp only [List.length_cons,List.length_nil]
      by_cases he:sx.err=0
      ·rw [if_pos he];have:=hpr.2 he;omega
      ·rw [if_neg he];have:=hpr.1;omega
     have HM:Hid (2*lft ⟨ts,A,cap,s.size⟩ b (w5.setCell ⟨q,5,none⟩ (.slice (some ⟨gg,0,none⟩) (l.length+1) cap1))+okn b (w5.setCell ⟨q,5,none⟩ (.slice (some ⟨gg,0,none⟩) (l.length+1) cap1))<2*lft ⟨ts,A,cap,s.size⟩ b wr+okn b wr):=by
      show _<_
      rw [hlf6,hok6,HLF.o,HOK.o]
      show 2*sx.rest.length+(if sx.err=0 then 1 else 0)<_
      by_cases he:sx.err=0
      ·rw [if_pos he];have:=hpr.2 he;omega
      ·rw [if_neg he];have:=hpr.1;omega
     clear hil hif HI6 HS6 HA6 hlf6 hok6 HI5 HS5 HA5 e0 e1 j5 j5a k5 HAd HId HRd HA2 HI2 HF2 HJ2 HFR2 HR2
     go_wp2_with fail
     go_roundw
     case rel=>exact HN.o
     case measure=>exact HM.o
  ·rw [ritemsMore_end f s' (.inl he)] at hX
   have hsr:s'=sr:=by injection hX
   have hRl:l=R:=by have:=congrArg Prod.fst hX;simpa using this
   subst hRl hsr
   have HPE:Hid (Pr.parse (bs s)= .error (s'.err,(atOf s.size s':Nat))):=by have:=HPS.o;rw [if_neg he] at this;exact this
   have hb0:((s'.err:Int)==0)=false:=by rw [beq_eq_false_iff_ne];omega
   have hb1:((s'.err:Int) !=0)=true:=by rw [bne_iff_ne];omega
   clear hX he hlf hok hf hb hn2
   go_wp2_with fail
   go_quiet (fail)
   have HA9:Hid (After2 ⟨ts,A,cap,s.size⟩ b q s' v8 (wr.drewN nq)):=HA.o.drewN nq
   have HR3:Hid (SB w.heap.size [] civ0 0 nil (wr.drewN nq)):=HA9.o.2.blk HR.o (by omega)
   have HB3:Hid (Below w.heap.size w (wr.drewN nq)):=HB0.o.trans (HA9.o.2.below (by omega) (fun k hk=>by omega))
   have g4:(wr.drewN nq).cell? ⟨b,4,none⟩=some (.int .i64 (s'.err:Int)):=c4
   have g5:(wr.drewN nq).cell? ⟨b,5,none⟩=some (.int .i64 (atOf s.size s':Int)):=c5
   clear HA HI HRS c0 c1 c4 c5
   generalize wr.drewN nq=w3 at*
   have r0:w3.cell? ⟨w.heap.size,0,none⟩=some (.string ⟨#[]⟩):=jq0 HR3.o 0
   have r1:w3.cell? ⟨w.heap.size,1,none⟩=some (.int .i64 0):=jq0 HR3.o 1
   have r2:w3.cell? ⟨w.heap.size,2,none⟩=some (.int .i64 0):=jq0 HR3.o 2
   have r3:w3.cell? ⟨w.heap.size,3,none⟩=some (.int .i64 0):=jq0 HR3.o 3
   have r4:w3.cell? ⟨w.heap.size,4,none⟩=some (.int .i64 0):=jq0 HR3.o 4
   have r5:w3.cell? ⟨w.heap.size,5,none⟩=some (.slice none 0 0):=jq0 HR3.o 5
   have z0:w3.frozen? ⟨w.heap.size,0,none⟩=false:=jq1 HR3.o 0
   have z1:w3.frozen? ⟨w.heap.size,1,none⟩=false:=jq1 HR3.o 1
   have z2:w3.frozen? ⟨w.heap.size,2,none⟩=false:=jq1 HR3.o 2
   have z3:w3.frozen? ⟨w.heap.size,3,none⟩=false:=jq1 HR3.o 3
   have z4:w3.frozen? ⟨w.heap.size,4,none⟩=false:=jq1 HR3.o 4
   have z5:w3.frozen? ⟨w.heap.size,5,none⟩=false:=jq1 HR3.o 5
   go_wp2_with fail
   go_region
   have HS9:Hid (SB w.heap.size [] civ0 0 nil (((((((w3.setCell ⟨w.heap.size,0,none⟩ (.string ⟨#[]⟩)).setCell ⟨w.heap.size,1,none⟩ (.int .i64 0)).setCell ⟨w.heap.size,2,none⟩ (.int .i64 0)).setCell ⟨w.heap.size,3,none⟩ (.int .i64 0)).setCell ⟨w.heap.size,4,none⟩ (.int .i64 0)).setCell ⟨w.heap.size,5,none⟩ (.slice none 0 0)).drew)):=by
    have b0:w3.heap[w.heap.size]?=some (.cells (srcells [] civ0 0 nil).toArray 27 (0,0)):=HR3.o
    have b1:=jx4 b0 0 (.string ⟨#[]⟩)
    have b2:=jx4 b1 1 (.int .i64 0)
    have b3:=jx4 b2 2 (.int .i64 0)
    have b4:=jx4 b3 3 (.int .i64 0)
    have b5:=jx4 b4 4 (.int .i64 0)
    have b6:=jx4 b5 5 (.slice none 0 0)
    exact jx2 b6 1
   have HB9:Hid (Below w.heap.size w (((((((w3.setCell ⟨w.heap.size,0,none⟩ (.string ⟨#[]⟩)).setCell ⟨w.heap.size,1,none⟩ (.int .i64 0)).setCell ⟨w.heap.size,2,none⟩ (.int .i64 0)).setCell ⟨w.heap.size,3,none⟩ (.int .i64 0)).setCell ⟨w.heap.size,4,none⟩ (.int .i64 0)).setCell ⟨w.heap.size,5,none⟩ (.slice none 0 0)).drew)):=by
    show Below w.heap.size w (((((((w3.setCell ⟨w.heap.size,0,none⟩ (.string ⟨#[]⟩)).setCell ⟨w.heap.size,1,none⟩ (.int .i64 0)).setCell ⟨w.heap.size,2,none⟩ (.int .i64 0)).setCell ⟨w.heap.size,3,none⟩ (.int .i64 0)).setCell ⟨w.heap.size,4,none⟩ (.int .i64 0)).setCell ⟨w.heap.size,5,none⟩ (.slice none 0 0)).drew)
    exact below_drewN ((((((HB3.o.setCell (p:=⟨w.heap.size,0,none⟩) (Nat.le_refl _) _).setCell (p:=⟨w.heap.size,1,none⟩) (Nat.le_refl _) _).setCell (p:=⟨w.heap.size,2,none⟩) (Nat.le_refl _) _).setCell (p:=⟨w.heap.size,3,none⟩) (Nat.le_refl _) _).setCell (p:=⟨w.heap.size,4,none⟩) (Nat.le_refl _) _).setCell (p:=⟨w.heap.size,5,none⟩) (Nat.le_refl _) _) 1
   clear r0 r1 r2 r3 r4 r5 z0 z1 z2 z3 z4 z5 g4 g5
   generalize ((((((w3.setCell ⟨w.heap.size,0,none⟩ (.string ⟨#[]⟩)).setCell ⟨w.heap.size,1,none⟩ (.int .i64 0)).setCell ⟨w.heap.size,2,none⟩ (.int .i64 0)).setCell ⟨w.heap.size,3,none⟩ (.int .i64 0)).setCell ⟨w.heap.size,4,none⟩ (.int .i64 0)).setCell ⟨w.heap.size,5,none⟩ (.slice none 0 0)).drew=w9 at*
   have HL9:Hid ((loadVar 27 ⟨w.heap.size,0,none⟩).run Tryd.prog w9= .ok (.agg (srcells [] civ0 0 nil).toArray) w9):=run_loadVar_mid _ _ _ _ (srcells [] civ0 0 nil) _ HS9.o.range Tryd.underlying27 rfl jz4
   go_wp2_with fail
   exact bodyPost_ret (jj2 Tryd.results12 rfl rfl rfl HL9.o) rfl ⟨ParseEnd.of_err HPE.o rfl,HB9.o⟩
theorem parse_any (s:ByteArray) (w:World) (hs:s.size≤9223372036854775807):
  Calls Tryd.prog 12 #[.string s] w fun e w'=>ParseEnd s w.heap.size e w'∧Below w.heap.size w w':=by
 cases hL:Lx.lex (bs s) with
 |error x=>
  obtain ⟨er,p⟩:=x
  exact parse_lexerr s w hs er p hL
 |ok ts=>exact parse_src s w hs ts hL
end Go.Proofs.YtfaflipphkoiiaaDoor.Rp
