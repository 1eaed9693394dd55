/-
  What the parser's method source returns. What Parse returns: the tree of a text, or its error and offset. What Parse returns where the parser finds an error. Trees in memory, as they are read: rows of items and of their lists.
-/
import Derived.Test.YtfaflipphkoiiaaDoorPkParC
import Derived.Test.YtfaflipphkoiiaaDoorPkLexB
set_option maxHeartbeats 64000000
set_option maxRecDepth 100000
set_option linter.unusedVariables false
namespace Go.Proofs.YtfaflipphkoiiaaDoor.Pr
open Go.RowKit Mem
open Lx (Tok)
theorem item_all_any (E:Env) (b:Nat) (s:St) (W:World) (h:PW E b s W) (r:Nat) (hr:W.heap[r]?=some (.map allEnts 14)) (hbr:b<r):
  Calls Tryd.prog 39 #[.pointer (some ⟨b,0,none⟩),.map (some r)] W fun e w'=>ItemEnd E b (item s).1 (item s).2 W e w':=by
 have:=item_any allWords allEnts 14 tab_all E b (fun x k hx s W hP=>?_) s W h r hr hbr
 ·rw [itemI_all] at this
  exact this
 ·have hk:=lookup_all hx
  by_cases h13:k=13
  ·subst h13
   exact template_any E b s W hP
  ·exact body_any k (by omega) E b s W hP
theorem expect2 (E:Env) (b:Nat) (s:St) (x y:Bytes) (W1:World) (g:Nat) (hg:g=W1.heap.size) (h:PW E b s W1):
  Calls Tryd.prog 33 #[.pointer (some ⟨b,0,none⟩),.slice (some ⟨g,0,none⟩) 2 2] (W1.alloc (.cells #[.string ⟨x.toArray⟩,.string ⟨y.toArray⟩] 9)) fun e w'=>e= .returned (.tuple #[])∧After E b (expect [x,y] s).2 W1 w':=by
 subst hg
 refine (expect_any E b s [x,y] W1.heap.size 0 2 _ (h.alloc _) (by simp) h.2.2.1 ?_ (by simp)).mono fun e w' ⟨he,ha⟩=>⟨he,((After.start h).alloc _).trans ha⟩
 intro i hi
 have hi0:i=0∨i=1:=by simp at hi;omega
 rcases hi0 with rfl|rfl
 ·exact jq0 (kx5 W1 _) 0
 ·exact jq0 (kx5 W1 _) 1
def srcells (n:Bytes) (c:Civil) (k:Nat) (si:Value):List Value:= [.string ⟨n.toArray⟩,.int .i64 (c.y:Int),.int .i64 (c.m:Int),.int .i64 (c.d:Int),.int .i64 (k:Int),si]
def SB (q:Nat) (n:Bytes) (c:Civil) (k:Nat) (si:Value) (W:World):Prop:=W.heap[q]?=some (.cells (srcells n c k si).toArray 27 (0,0))
def civ0:Civil:=⟨0,0,0⟩
theorem jz4:(Tryd.prog.info? 27).map (·.size)=some 6:=by kernel_rfl
theorem SB.there {q:Nat} {n:Bytes} {c:Civil} {k:Nat} {si:Value} {W:World} (h:SB q n c k si W):W.there q 0 6:=by
 intro j hj
 rw [Nat.zero_add]
 refine ⟨?_,jq1 h j⟩
 rw [jq0 h]
 have:j<(srcells n c k si).length:=hj
 simp [this]
theorem SB.range {q:Nat} {n:Bytes} {c:Civil} {k:Nat} {si:Value} {W:World} (h:SB q n c k si W):W.rangeAt q 0 (srcells n c k si):=by
 intro j v hj
 rw [Nat.zero_add,jq0 h]
 simpa using hj
theorem jz5 (n:Bytes) (c:Civil) (k:Nat) (si:Value) (h: ∃A n c,si= .slice A n c):(srcells n c k si).toArray.all (·.oneCell')=true:=by
 obtain ⟨_,_,_,rfl⟩:=h
 simp [srcells,Value.oneCell']
theorem SB.set_n {q:Nat} {n:Bytes} {c:Civil} {k:Nat} {si:Value} {W:World} (h:SB q n c k si W) (x:Bytes):SB q x c k si (W.setCell ⟨q,0,none⟩ (.string ⟨x.toArray⟩)):=by
 have h2:=jx4 h 0 (.string ⟨x.toArray⟩)
 exact h2
theorem SB.set_c {q:Nat} {n:Bytes} {c:Civil} {k:Nat} {si:Value} {W:World} (h:SB q n c k si W) (x:Civil):SB q n x k si (((W.setCell ⟨q,1,none⟩ (.int .i64 (x.y:Int))).setCell ⟨q,2,none⟩ (.int .i64 (x.m:Int))).setCell ⟨q,3,none⟩ (.int .i64 (x.d:Int))):=by
 have h2:=jx4 (jx4 (jx4 h 1 (.int .i64 (x.y:Int))) 2 (.int .i64 (x.m:Int))) 3 (.int .i64 (x.d:Int))
 exact h2
theorem SB.set_k {q:Nat} {n:Bytes} {c:Civil} {k:Nat} {si:Value} {W:World} (h:SB q n c k si W) (x:Nat):SB q n c x si (W.setCell ⟨q,4,none⟩ (.int .i64 (x:Int))):=by
 have h2:=jx4 h 4 (.int .i64 (x:Int))
 exact h2
theorem SB.set_si {q:Nat} {n:Bytes} {c:Civil} {k:Nat} {si:Value} {W:World} (h:SB q n c k si W) (x:Value):SB q n c k x (W.setCell ⟨q,5,none⟩ x):=by
 have h2:=jx4 h 5 x
 exact h2
theorem src_end {E:Env} {b:Nat} {s:St} {W w2:World} {n0:Bytes} {c0:Civil} {k0:Nat} {v0:Value} (HR:SB W.heap.size n0 c0 k0 v0 w2) (HA:After E b s W w2) (hb:b<W.heap.size) (n:Bytes) (c:Civil) (k:Nat) (si:Value):
  ∃w3,w2.setCells W.heap.size 0 (srcells n c k si).toArray.toList=w3∧After E b s W w3∧(loadVar 27 ⟨W.heap.size,0,none⟩).run Tryd.prog w3= .ok (.agg (srcells n c k si).toArray) w3∧
   (∀base e z v n xs,W.heap.size<base→w2.ownsRow base e z v n xs→w3.ownsRow base e z v n xs):=by
 refine ⟨_,rfl,HA.setCells (Nat.le_refl _) hb _ _,?_,?_⟩
 ·rw [List.toList_toArray]
  exact run_loadVar_mid _ _ _ _ (srcells n c k si) _ (World.rangeAt_setCells_same _ _ _ _ HR.there) Tryd.underlying27 rfl jz4
 ·intro base e z v n xs hl ho
  exact jx5 ho (Fr.setCells (S:=fun k=>k=W.heap.size) (.inl rfl) _ _ _ (Fr.refl _ _)) (fun k hk _ e=>by omega)
def SRel (E:Env) (b q:Nat) (n:Bytes) (c:Civil) (k:Nat) (w0:World) (R:List Item) (sr:St) (wr:World):Prop:=
 ∃(l:List Item) (s':St) (f:Nat) (vs:List Sl) (si:Value),SB q n c k si wr∧RowSv w0.heap.size l vs si wr∧After2 E b q s' w0 wr∧(s'.err=0→s'.rest.length<f)∧l.length+s'.rest.length+(if s'.err=0 then 1 else 0)≤5002∧(l++(itemsMore f s').1,(itemsMore f s').2)=(R,sr)
theorem source_any (E:Env) (b:Nat) (s:St) (W:World) (h:PW E b s W):
  Calls Tryd.prog 22 #[.pointer (some ⟨b,0,none⟩)] W fun e w'=>(∃si,e= .returned (.agg (srcells (source s).1.name (source s).1.frm (source s).1.days si).toArray)∧RowS W.heap.size (source s).1.items si w')∧After E b (source s).2 W w':=by
 have hbl:=h.2.2.1
 obtain ⟨zv,hzz,hz33⟩:=info_itemz
 obtain ⟨i0,hi,hz0,hz1,hz2⟩:=info_parts hzz
 obtain ⟨u1,s1,h1⟩: ∃x s',expect [[99,111,110,116,114,97,99,116]] s=(x,s'):=⟨_,_,rfl⟩
 obtain ⟨n,s2,h2⟩: ∃x s',name s1=(x,s'):=⟨_,_,rfl⟩
 obtain ⟨u3,s3,h3⟩: ∃x s',expect [[102,114,111,109]] s2=(x,s'):=⟨_,_,rfl⟩
 obtain ⟨c,s4,h4⟩: ∃x s',date s3=(x,s'):=⟨_,_,rfl⟩
 obtain ⟨u5,s5,h5⟩: ∃x s',expect [[102,111,114]] s4=(x,s'):=⟨_,_,rfl⟩
 obtain ⟨k,s6,h6⟩: ∃x s',number s5=(x,s'):=⟨_,_,rfl⟩
 obtain ⟨u7,s7,h7⟩: ∃x s',expect [[100,97,121,115],[59]] s6=(x,s'):=⟨_,_,rfl⟩
 obtain ⟨R,sr,h8⟩: ∃R sr,long itemsMore s7=(R,sr):=⟨_,_,rfl⟩
 have hh:header s=(⟨n,c,k,[]⟩,s7):=(jx1 h1).trans ((jq3 h2).trans ((jx1 h3).trans ((jq3 h4).trans ((jx1 h5).trans ((jq3 h6).trans ((jx1 h7).trans rfl))))))
 have hp:source s=(⟨n,c,k,R⟩,sr):=(jq3 hh).trans ((jq3 h8).trans rfl)
 rw [hp]
 have HP:=hdd h;have H1:=hdd h1;have H2:=hdd h2;have H3:=hdd h3;have H4:=hdd h4;have H5:=hdd h5;have H6:=hdd h6;have H7:=hdd h7;have H8:=hdd h8
 clear h h1 h2 h3 h4 h5 h6 h7 h8 hp hzz hh
 go_enter Tryd.func22,Tryd.ntmps22
 go_wp2_with fail
 refine (expect1 E b s [99,111,110,116,114,97,99,116] _ _ (by simp) (((After.start HP.o).alloc _).alloc _).1).mono ?_
 rw [H1.o]
 rintro e w1 ⟨rfl,hA⟩
 have HR1:Hid (SB W.heap.size [] civ0 0 nil w1):=hA.2.blk (jq9 (jq5 (by simp)) _) (by omega)
 have HS1:Hid (SB (W.heap.size+1) [] civ0 0 nil w1):=hA.2.blk (jq5 (by simp)) (by omega)
 have HA1:=hdd ((((After.start HP.o).alloc _).alloc _).trans hA);clear hA
 go_wp2_with fail
 refine (name_any E b s1 _ HA1.o.1).mono ?_
 rw [H2.o]
 rintro e w2 ⟨rfl,hA⟩
 have HR2:Hid (SB W.heap.size [] civ0 0 nil w2):=hA.2.blk HR1.o (by omega)
 have HS2:Hid (SB (W.heap.size+1) [] civ0 0 nil w2):=hA.2.blk HS1.o (by omega)
 have HA2:=hdd (HA1.o.trans hA);clear hA HR1 HS1 HA1
 have k0:w2.cell? ⟨W.heap.size+1,0,none⟩=some (.string ⟨#[]⟩):=jq0 HS2.o 0
 have f0:w2.frozen? ⟨W.heap.size+1,0,none⟩=false:=jq1 HS2.o 0
 go_wp2_with fail
 refine (expect1 E b s2 [102,114,111,109] _ _ (by simp) (HA2.o.set (i:=0) (by omega) (by omega) (.string ⟨n.toArray⟩)).1).mono ?_
 rw [H3.o]
 rintro e w3 ⟨rfl,hA⟩
 have HR3:Hid (SB W.heap.size [] civ0 0 nil w3):=hA.2.blk (jq2 HR2.o (by omega) (.string ⟨n.toArray⟩)) (by omega)
 have HS3:Hid (SB (W.heap.size+1) n civ0 0 nil w3):=hA.2.blk (SB.set_n HS2.o n) (by omega)
 have HA3:=hdd ((HA2.o.set (i:=0) (by omega) (by omega) (.string ⟨n.toArray⟩)).trans hA);clear hA HR2 HS2 HA2 k0 f0
 go_wp2_with fail
 refine (date_any E b s3 _ HA3.o.1).mono ?_
 rw [H4.o]
 rintro e w4 ⟨rfl,hA⟩
 have HR4:Hid (SB W.heap.size [] civ0 0 nil w4):=hA.2.blk HR3.o (by omega)
 have HS4:Hid (SB (W.heap.size+1) n civ0 0 nil w4):=hA.2.blk HS3.o (by omega)
 have HA4:=hdd (HA3.o.trans hA);clear hA HR3 HS3 HA3
 have k1:w4.cell? ⟨W.heap.size+1,1,none⟩=some (.int .i64 0):=jq0 HS4.o 1
 have k2:w4.cell? ⟨W.heap.size+1,2,none⟩=some (.int .i64 0):=jq0 HS4.o 2
 have k3:w4.cell? ⟨W.heap.size+1,3,none⟩=some (.int .i64 0):=jq0 HS4.o 3
 have f1:w4.frozen? ⟨W.heap.size+1,1,none⟩=false:=jq1 HS4.o 1
 have f2:w4.frozen? ⟨W.heap.size+1,2,none⟩=false:=jq1 HS4.o 2
 have f3:w4.frozen? ⟨W.heap.size+1,3,none⟩=false:=jq1 HS4.o 3
 go_wp2_with fail
 refine (expect1 E b s4 [102,111,114] _ _ (by simp) (((HA4.o.set (i:=1) (by omega) (by omega) (.int .i64 (c.y:Int))).set (i:=2) (by omega) (by omega) (.int .i64 (c.m:Int))).set (i:=3) (by omega) (by omega) (.int .i64 (c.d:Int))).1).mono ?_
 rw [H5.o]
 rintro e w5 ⟨rfl,hA⟩
 have HR5:Hid (SB W.heap.size [] civ0 0 nil w5):=hA.2.blk (jq2 (jq2 (jq2 HR4.o (by omega) _) (by omega) _) (by omega) _) (by omega)
 have HS5:Hid (SB (W.heap.size+1) n c 0 nil w5):=hA.2.blk (SB.set_c HS4.o c) (by omega)
 have HA5:=hdd ((((HA4.o.set (i:=1) (by omega) (by omega) (.int .i64 (c.y:Int))).set (i:=2) (by omega) (by omega) (.int .i64 (c.m:Int))).set (i:=3) (by omega) (by omega) (.int .i64 (c.d:Int))).trans hA);clear hA HR4 HS4 HA4 k1 k2 k3 f1 f2 f3
 go_wp2_with fail
 refine (number_any E b s5 _ HA5.o.1).mono ?_
 rw [H6.o]
 rintro e w6 ⟨rfl,hA⟩
 have HR6:Hid (SB W.heap.size [] civ0 0 nil w6):=hA.2.blk HR5.o (by omega)
 have HS6:Hid (SB (W.heap.size+1) n c 0 nil w6):=hA.2.blk HS5.o (by omega)
 have HA6:=hdd (HA5.o.trans hA);clear hA HR5 HS5 HA5
 have k4:w6.cell? ⟨W.heap.size+1,4,none⟩=some (.int .i64 0):=jq0 HS6.o 4
 have f4:w6.frozen? ⟨W.heap.size+1,4,none⟩=false:=jq1 HS6.o 4
 go_wp2_with fail
 refine (expect2 E b s6 [100,97,121,115] [59] _ _ (by simp) (HA6.o.set (i:=4) (by omega) (by omega) (.int .i64 (k:Int))).1).mono ?_
 rw [H7.o]
 rintro e w7 ⟨rfl,hA⟩
 have HR7:Hid (SB W.heap.size [] civ0 0 nil w7):=hA.2.blk (jq2 HR6.o (by omega) _) (by omega)
 have HS7:Hid (SB (W.heap.size+1) n c k nil w7):=hA.2.blk (SB.set_k HS6.o k) (by omega)
 have HA7:=hdd ((HA6.o.set (i:=4) (by omega) (by omega) (.int .i64 (k:Int))).trans hA);clear hA HR6 HS6 HA6 k4 f4
 have hq7:=jq7 HS7.o
 go_wp2_with fail
 refine (allKinds_any _).mono ?_
 rintro e w8 ⟨rfl,hm,hfr⟩
 have HR0:Hid (SB W.heap.size [] civ0 0 nil w8):=hfr.blk HR7.o (fun h=>h)
 have HS0:Hid (SB (W.heap.size+1) n c k nil w8):=hfr.blk HS7.o (fun h=>h)
 have HA0:Hid (After E b s7 W w8):=⟨HA7.o.1.fr hfr (fun k hk h=>h),HA7.o.2.trans' hfr (fun i hi h=>h.elim)⟩
 have HM0:=hdd hm
 have hr8:=jq7 hm
 clear hm hfr HA7 HR7 HS7
 generalize hrr:w7.heap.size=r at*
 have hln:=HA0.o.1.len
 go_wp2_with fail
 go_loopw [] (fun wr=>SRel E b (W.heap.size+1) n c k w8 R sr wr) (fun wr=>2*lft E b wr+okn b wr)
 case atStart=>exact ⟨[],s7,s7.rest.length+1,[],nil,HS0.o,RowSv.nil _ _,After2.start HA0.o.1,fun _=>by omega,by simp;split<;>omega,by have:=H8.o;unfold long at this;rw [this];rfl⟩
 case round=>
  obtain ⟨l,s',f,vs,si,hI,hRS,hA,hf,hb,hX⟩:=hrel
  have hlf:=hA.1.lft
  have hok:=hA.1.okn
  have hsz:=hA.2.size
  obtain ⟨A5,cap5,rfl⟩:=hRS.form
  obtain ⟨n0,hn1,hn2,c0,c1,_,_,c4,_⟩:=hA.1.cells
  have hl5:=hA.1.1
  have HA:=hdd hA;clear hA
  have HI:=hdd hI;clear hI
  have HRS:=hdd hRS;clear hRS
  by_cases he:s'.err=0
  ·cases hr:s'.rest with
   |nil=>
    rw [kq3 f s' (.inr hr)] at hX
    have hsr:s'=sr:=by injection hX
    have hRl:l=R:=by have:=congrArg Prod.fst hX;simpa using this
    subst hRl hsr
    rw [hr] at hn2
    have hn:=drop_nil hn2 hn1
    have hlt:decide (n0<E.ts.length)=false:=decide_eq_false (by omega)
    have HE:=hdd he;have HNN:=hdd hn
    clear hX he hlf hok hf hb hr hn2 hn
    go_wp2_with fail
    go_quiet ((go_at_call 38;exact Calls.quiet_of_same (ok_yes E b s' _ (HA.o.1.drewN _) HE.o)))
    have HA9:Hid (After2 E b (W.heap.size+1) s' w8 (wr.drewN nq)):=HA.o.drewN nq
    have HI9:Hid (SB (W.heap.size+1) n c k (.slice A5 l.length cap5) (wr.drewN nq)):=HI.o
    have HRS9:Hid (RowSv w8.heap.size l vs (.slice A5 l.length cap5) (wr.drewN nq)):=HRS.o
    have HAW:=hdd (HA0.o.ptr HA9.o (by omega))
    have HR9:Hid (SB W.heap.size [] civ0 0 nil (wr.drewN nq)):=HA9.o.2.blk HR0.o (by omega)
    clear HA HI HRS c0 c1 c4
    generalize wr.drewN nq=w9 at*
    obtain ⟨w99,hw99,hA99,hl99,ho99⟩:=src_end HR9.o HAW.o hbl n c k (.slice A5 l.length cap5)
    have RS99:Hid (RowSv W.heap.size l vs (.slice A5 l.length cap5) w99):=HRS9.o.carry fun e z v n xs ho=>own_base (ho99 _ _ _ _ _ _ (by omega) ho) (by omega)
    have HW99:=hdd hw99;clear hw99
    have HA99:=hdd hA99;clear hA99
    have HL99:=hdd hl99;clear hl99 ho99
    go_wp2_with (first|(refine wpList_load_mid rfl 27 _ rfl (W.heap.size+1) 0 rfl (srcells n c k (.slice A5 l.length cap5)) _ HI9.o.range Tryd.underlying27 rfl jz4 ?_)|(refine wpList_store_mid rfl 27 _ _ rfl W.heap.size 0 (srcells n c k (.slice A5 l.length cap5)).toArray rfl rfl HR9.o.there jz4 (jz5 _ _ _ _ ⟨_,_,_,rfl⟩) ?_;rw [HW99.o]))
    exact bodyPost_ret (v:= .agg (srcells n c k (.slice A5 l.length cap5)).toArray) (jq8 Tryd.results22 rfl HL99.o) rfl ⟨⟨_,rfl,vs,RS99.o⟩,HA99.o⟩
   |cons t rs=>
    obtain ⟨f,rfl⟩: ∃g,f=g+1:=⟨f-1,by have:=hf he;omega⟩
    rw [kx6 f s' he (by rw [hr];simp)] at hX
    rw [hr] at hn2
    have hn:n0<E.ts.length:=by obtain ⟨h,_⟩:=jz2 hn2;exact h
    have hpr:=item_prog s'
    obtain ⟨x,sx,hx⟩: ∃x sx,item s'=(x,sx):=⟨_,_,rfl⟩
    rw [hx] at hX hpr
    have hf2:=hf he
    rw [if_pos he] at hb hok
    have hlt:decide (n0<E.ts.length)=true:=decide_eq_true hn
    have HX:=hdd hX;have HXX:=hdd hx;have HE:=hdd he;have HLF:=hdd hlf;have HOK:=hdd hok;have HNN:=hdd hn
    clear hX hx he hlf hok hf hr hn2 hn
    go_wp2_with fail
    go_quiet ((go_at_call 38;exact Calls.quiet_of_same (ok_yes E b s' _ (HA.o.1.drewN _) HE.o)))
    have HAq:Hid (After2 E b (W.heap.size+1) s' w8 (wr.drewN nq)):=HA.o.drewN nq
    have HIq:Hid (SB (W.heap.size+1) n c k (.slice A5 l.length cap5) (wr.drewN nq)):=HI.o
    have HRq:Hid (RowSv w8.heap.size l vs (.slice A5 l.length cap5) (wr.drewN nq)):=HRS.o
    have hszq:(wr.drewN nq).heap.size=wr.heap.size:=rfl
    clear HA HI HRS c0 c1 c4
    generalize wr.drewN nq=w9 at*
    have HAd:Hid (After2 E b (W.heap.size+1) s' w8 w9.drew):=HAq.o.drewN 1
    have HId:Hid (SB (W.heap.size+1) n c k (.slice A5 l.length cap5) w9.drew):=HIq.o
    have HRd:Hid (RowSv w8.heap.size l vs (.slice A5 l.length cap5) w9.drew):=HRq.o
    have HMd:Hid (w9.drew.heap[r]?=some (.map allEnts 14)):=HAd.o.2.blk HM0.o (by omega)
    have hqlt:=jq7 HId.o
    have k5:w9.cell? ⟨W.heap.size+1,5,none⟩=some (.slice A5 l.length cap5):=jq0 HId.o 5
    clear HAq HIq HRq
    go_wp2_with fail
    go_region_law (first|(refine step_call2 rfl 39 _ _ _ rfl ent_item (.pointer (some ⟨b,0,none⟩)) (.map (some r)) (by rfl) (by rfl) (item_all_any E b s' w9.drew HAd.o.1 r HMd.o (by omega)) ?_;rw [HXX.o];rintro e v2 ⟨⟨sc,sd,sn,sj,rfl,hF2,hI2⟩,hA2⟩;refine ⟨_,rfl,?_⟩;have HA2:=hdd (HAd.o.trans hA2);have HI2:Hid (SB (W.heap.size+1) n c k (.slice A5 l.length cap5) v2):=(hA2.2.blk HId.o (by omega));have HF2:=hdd hF2;have HJ2:=hdd hI2;have hil:=jj6 x.flat sc sd sn sj;have hif:=fold_icells x.flat sc sd sn sj;have HFR2:=hdd hA2.2;have HR2:=hdd (HRd.o.fr hA2.2 (fun k hk _ e=>by omega));have j5:v2.cell? ⟨W.heap.size+1,5,none⟩=some (.slice A5 l.length cap5):=(jq0 HI2.o 5);have j5a: ∀o,(v2.alloc o).cell? ⟨W.heap.size+1,5,none⟩=some (.slice A5 l.length cap5):=(fun o=>jq0 (jq9 HI2.o o) 5);have hz2w:=hA2.2.size;clear hA2 hF2 hI2)|(refine step_append_lies _ rfl (.tmp 42) (.tmp 46) 25 rfl w8.heap.size 57 i0 _ 33 368 Tryd.underlying25 hi hz0 hz1 hz2 hz33 (by decide) (.slice A5 l.length cap5) l.length _ (by rfl) (HR2.o.2.2.1.alloc _) ⟨v2.heap.size,0,none⟩ 1 1 (icells x.flat sc sd sn sj) (by rfl) (by rfl) (World.news_of_block (cs:=(icells x.flat sc sd sn sj).toArray) (t:=57) (fr:=(0,0)) (heap_alloc_new v2 _)) (jv4 _ _ _ _ _ HF2.o.forms.1 HF2.o.forms.2.1 HF2.o.forms.2.2 HJ2.o.form) (by decide) (by simp only [maxLen];omega) (by omega) (by simp only [World.size_alloc];have:w9.drew.heap.size=w9.heap.size:=rfl;omega) (v2.heap.size+1) (by simp) ?_;intro gg cap1 w5 hown5 hgrow hat hlt5;have HS5:=hdd (HRd.o.snoc HFR2.o (fun k hk _ e=>by omega) (by show _≤w9.heap.size;omega) HF2.o HJ2.o hgrow hown5 hat);have HA5:=hdd (HA2.o.grown hgrow (fun g hg=>(own_lt HR2.o.2.2.1 g hg).1) (by omega));have HI5:Hid (SB (W.heap.size+1) n c k (.slice A5 l.length cap5) w5):=(kq9 hgrow HI2.o (fun g hg e=>by have:=(own_lt HR2.o.2.2.1 g hg).1;omega));have e0:w5.cell? ⟨W.heap.size+1,5,none⟩=some (.slice A5 l.length cap5):=(jq0 HI5.o 5);have e1:w5.frozen? ⟨W.heap.size+1,5,none⟩=false:=(jq1 HI5.o 5);clear hown5 hgrow hat))
    all_goals
     have HI6:=hdd (SB.set_si HI5.o (.slice (some ⟨gg,0,none⟩) (l.length+1) cap1))
     have HS6:=hdd (HS5.o.set (q:=W.heap.size+1) (i:=5) (by omega) (.slice (some ⟨gg,0,none⟩) (l.length+1) cap1))
     have HA6:=hdd (HA5.o.set (i:=5) (by omega) (.slice (some ⟨gg,0,none⟩) (l.length+1) cap1))
     have hlf6:=HA6.o.1.lft
     have hok6:=HA6.o.1.okn
     have HN:Hid (SRel E b (W.heap.size+1) n c k w8 R sr (w5.setCell ⟨W.heap.size+1,5,none⟩ (.slice (some ⟨gg,0,none⟩) (l.length+1) cap1))):=by
      refine ⟨l++ [x],sx,f,_,_,HI6.o,HS6.o,HA6.o,fun he=>by have:=hpr.2 he;omega,?_,by rw [←HX.o];simp⟩
      rw [List.length_append]
      simp only [List.length_cons,List.length_nil]
      by_cases he:sx.err=0
      ·rw [if_pos he];have:=hpr.2 he;omega
      ·rw [if_neg he];have:=hpr.1;omega
     have HM:Hid (2*lft E b (w5.setCell ⟨W.heap.size+1,5,none⟩ (.slice (some ⟨gg,0,none⟩) (l.length+1) cap1))+okn b (w5.setCell ⟨W.heap.size+1,5,none⟩ (.slice (some ⟨gg,0,none⟩) (l.length+1) cap1))<2*lft E b wr+okn b wr):=by
      show _<_
      rw [hlf6,hok6,HLF.o,HOK.o]
      show 2*sx.rest.length+(if sx.err=0 then 1 else 0)<_
      by_cases he:sx.err=0
      ·rw [if_pos he];have:=hpr.2 he;omega
      ·rw [if_neg he];have:=hpr.1;omega
     clear hil hif HI6 HS6 HA6 hlf6 hok6 HI5 HS5 HA5 e0 e1 j5 j5a k5 HAd HId HRd HMd HA2 HI2 HF2 HJ2 HFR2 HR2
     go_wp2_with fail
     go_roundw
     case rel=>exact HN.o
     case measure=>exact HM.o
  ·rw [kq3 f s' (.inl he)] at hX
   have hsr:s'=sr:=by injection hX
   have hRl:l=R:=by have:=congrArg Prod.fst hX;simpa using this
   subst hRl hsr
   have HE:=hdd he
   clear hX he hlf hok hf hb hn2
   go_wp2_with fail
   go_quiet ((go_at_call 38;exact Calls.quiet_of_same (ok_no E b s' _ (HA.o.1.drewN _) HE.o)))
   have HA9:Hid (After2 E b (W.heap.size+1) s' w8 (wr.drewN nq)):=HA.o.drewN nq
   have HI9:Hid (SB (W.heap.size+1) n c k (.slice A5 l.length cap5) (wr.drewN nq)):=HI.o
   have HRS9:Hid (RowSv w8.heap.size l vs (.slice A5 l.length cap5) (wr.drewN nq)):=HRS.o
   have HAW:=hdd (HA0.o.ptr HA9.o (by omega))
   have HR9:Hid (SB W.heap.size [] civ0 0 nil (wr.drewN nq)):=HA9.o.2.blk HR0.o (by omega)
   clear HA HI HRS c0 c1 c4
   generalize wr.drewN nq=w9 at*
   obtain ⟨w99,hw99,hA99,hl99,ho99⟩:=src_end HR9.o HAW.o hbl n c k (.slice A5 l.length cap5)
   have RS99:Hid (RowSv W.heap.size l vs (.slice A5 l.length cap5) w99):=HRS9.o.carry fun e z v n xs ho=>own_base (ho99 _ _ _ _ _ _ (by omega) ho) (by omega)
   have HW99:=hdd hw99;clear hw99
   have HA99:=hdd hA99;clear hA99
   have HL99:=hdd hl99;clear hl99 ho99
   go_wp2_with (first|(refine wpList_load_mid rfl 27 _ rfl (W.heap.size+1) 0 rfl (srcells n c k (.slice A5 l.length cap5)) _ HI9.o.range Tryd.underlying27 rfl jz4 ?_)|(refine wpList_store_mid rfl 27 _ _ rfl W.heap.size 0 (srcells n c k (.slice A5 l.length cap5)).toArray rfl rfl HR9.o.there jz4 (jz5 _ _ _ _ ⟨_,_,_,rfl⟩) ?_;rw [HW99.o]))
   exact bodyPost_ret (v:= .agg (srcells n c k (.slice A5 l.length cap5)).toArray) (jq8 Tryd.results22 rfl HL99.o) rfl ⟨⟨_,rfl,vs,RS99.o⟩,HA99.o⟩
end Go.Proofs.YtfaflipphkoiiaaDoor.Pr
namespace Go.Proofs.YtfaflipphkoiiaaDoor.Pr
open Go.RowKit Mem
open Lx (Tok bs cellsAll cellsOf)
theorem lexP_count: ∀(f:Nat) (s:List UInt8) (p c:Nat) (ts:List Tok),c≤5000→Lx.lexP f s p c= .ok ts→c+ts.length≤5000
 |0,s,p,c,ts,hc,h=>by
  simp only [Lx.lexP] at h
  injection h with h
  subst h
  simpa using hc
 |f+1,s,p,c,ts,hc,h=>by
  unfold Lx.lexP at h
  split at h
  ·injection h with h
   subst h
   simpa using hc
  ·split at h
   ·cases h
   ·split at h
    ·cases h
    ·rename_i k len v _ hc5
     cases hr:Lx.lexP f s (p+len+Lx.gapLen false (s.drop (p+len))) (c+1) with
     |error e=>rw [hr] at h;simp [Lx.comb] at h
     |ok us=>
      have:=lexP_count f s _ (c+1) us (by omega) hr
      rw [hr] at h
      simp only [Lx.comb,List.singleton_append] at h
      injection h with h
      subst h
      simp only [List.length_cons]
      omega
theorem lex_len {s:List UInt8} {ts:List Tok} (h:Lx.lex s= .ok ts):ts.length≤5000:=by
 unfold Lx.lex at h
 split at h
 ·cases h
 ·split at h
  ·cases h
  ·rename_i us hu
   injection h with h
   subst h
   have:=lexP_count _ _ _ 0 us (by omega) hu
   omega
theorem cells_get (ts:List Tok) (i j:Nat) (h:i<ts.length) (hj:j<4):(cellsAll ts)[i*4+j]?=(cellsOf ts[i])[j]?:=by
 induction ts generalizing i with
 |nil=>simp at h
 |cons t ts ih=>
  have e:cellsAll (t::ts)=cellsOf t++cellsAll ts:=by simp [cellsAll]
  have hl:(cellsOf t).length=4:=rfl
  rw [e]
  cases i with
  |zero=>rw [Nat.zero_mul,Nat.zero_add,List.getElem?_append_left (by omega)];rfl
  |succ i=>
   rw [List.getElem?_append_right (by omega),hl,show (i+1)*4+j-4=i*4+j by omega,ih i (by simpa using h)]
   rfl
theorem toks_of_own {w:World} {base n cap:Nat} {A:Option Addr} {ts:List Tok} (h:w.ownsRow base 40 4 (.slice A n cap) ts.length (cellsAll ts)):
  0<ts.length→ ∃g o,A=some ⟨g,o,none⟩∧g<w.heap.size∧ ∀i (h:i<ts.length),w.cell? ⟨g,o+i*4,none⟩=some (.int .i64 (ts[i].kind:Int))∧w.cell? ⟨g,o+i*4+1,none⟩=some (.string ⟨ts[i].text.toArray⟩)∧
   w.cell? ⟨g,o+i*4+2,none⟩=some (.int .i64 (ts[i].n:Int))∧w.cell? ⟨g,o+i*4+3,none⟩=some (.int .i64 (ts[i].pos:Int)):=by
 intro hpos
 rcases h.2 with ⟨_,h0⟩|⟨g,cap',cur,hv,hg,hh,hn,hm,hsz,ht⟩
 ·omega
 ·injection hv with hA _ _
  have hcell: ∀k,k<ts.length*4→w.cell? ⟨g,k,none⟩=(cellsAll ts)[k]?:=by
   intro k hk
   unfold World.cell?
   simp only [hh]
   rw [←ht,List.getElem?_take,if_pos hk]
   simp
  refine ⟨g,0,hA,jq7 hh,fun i hi=>?_⟩
  have k0:=(hcell (i*4+0) (by omega)).trans (cells_get ts i 0 hi (by omega))
  have k1:=(hcell (i*4+1) (by omega)).trans (cells_get ts i 1 hi (by omega))
  have k2:=(hcell (i*4+2) (by omega)).trans (cells_get ts i 2 hi (by omega))
  have k3:=(hcell (i*4+3) (by omega)).trans (cells_get ts i 3 hi (by omega))
  simp only [Nat.zero_add]
  exact ⟨k0,k1,k2,k3⟩
def ParseEnd (s:ByteArray) (B:Nat) (e:Ending) (w':World):Prop:=
 match parse (bs s) with
 | .error (er,p)=>e= .returned (.tuple #[.agg (srcells [] civ0 0 nil).toArray,.int .i64 (er:Int),.int .i64 p])
 | .ok src=> ∃si,e= .returned (.tuple #[.agg (srcells src.name src.frm src.days si).toArray,.int .i64 0,.int .i64 0])∧RowS B src.items si w'
def Wks (W:World):Prop:=0<W.heap.size∧Wk W
theorem Wks.below {W W':World} (h:Wks W) (hb:Below W.heap.size W W'):Wks W':=
 ⟨Nat.lt_of_lt_of_le h.1 hb.size,fun i x hx=>(hb.cell (p:=⟨0,i,none⟩) h.1).trans (h.2 i x hx)⟩
theorem jj2 {fn:Func} {r a2 a3:Nat} {T:TypeId} (hf:fn.results= #[.cell r T,.tmp a2,.tmp a3]) {tmps:Array Value} {w:World} {a:Addr} {v v2 v3:Value} (ht:tmps.getD r undef= .pointer (some a)) (h2:tmps.getD a2 undef=v2) (h3:tmps.getD a3 undef=v3) (hl:(loadVar T a).run Tryd.prog w= .ok v w):
  (results fn tmps).run Tryd.prog w= .ok (.tuple #[v,v2,v3]) w:=by
 have ht':tmps[r]?.getD undef= .pointer (some a):=by simpa using ht
 have h2':tmps[a2]?.getD undef=v2:=by simpa using h2
 have h3':tmps[a3]?.getD undef=v3:=by simpa using h3
 unfold results
 rw [hf]
 simp [ht',h2',h3',asAddr,hl]
theorem build_src (w:World):(Instr.build 27 #[]).run Tryd.prog w= .ok (.agg (srcells [] civ0 0 nil).toArray) w:=by kernel_rfl
theorem jk9 {B:Nat} {w:World} {q:Nat} (hq:B≤q) (vs:List Value): ∀(o:Nat) (w2:World),Below B w w2→Below B w (w2.setCells q o vs):=by
 induction vs with
 |nil=>intro o w2 h;exact h
 |cons v r ih=>intro o w2 h;exact ih (o+1) _ (h.setCell (p:=⟨q,o,none⟩) hq v)
theorem below_le {B B':Nat} {a b:World} (h:Below B a b) (hle:B'≤B):Below B' a b:=⟨h.os,h.tape,h.output,h.size,fun k hk=>h.block k (by omega)⟩
theorem lexP_err_ne: ∀(f:Nat) (s:List UInt8) (p c:Nat) (e q:Nat),Lx.lexP f s p c= .error (e,q)→e≠0
 |0,s,p,c,e,q,h=>by simp only [Lx.lexP] at h;cases h
 |f+1,s,p,c,e,q,h=>by
  unfold Lx.lexP at h
  split at h
  ·cases h
  ·split at h
   ·rename_i e' he
    injection h with h
    injection h with h1 h2
    have:=Lx.tok_err he
    omega
   ·split at h
    ·injection h with h
     injection h with h1 h2
     omega
    ·rename_i k len v _ hc5
     cases hr:Lx.lexP f s (p+len+Lx.gapLen false (s.drop (p+len))) (c+1) with
     |error x=>
      rw [hr] at h
      simp only [Lx.comb] at h
      injection h with h
      obtain ⟨x1,x2⟩:=x
      injection h with h1 h2
      subst h1
      exact lexP_err_ne f s _ _ _ _ hr
     |ok us=>rw [hr] at h;simp [Lx.comb] at h
theorem lex_err_ne {s:List UInt8} {e:Nat} {p:Int} (h:Lx.lex s= .error (e,p)):e≠0:=by
 unfold Lx.lex at h
 split at h
 ·injection h with h
  injection h with h1 h2
  omega
 ·split at h
  ·rename_i e' p' hu
   injection h with h
   injection h with h1 h2
   subst h1
   exact lexP_err_ne _ _ _ _ _ _ hu
  ·cases h
theorem ParseEnd.of_err {s:ByteArray} {B:Nat} {e:Ending} {w':World} {er:Nat} {p:Int} (h:parse (bs s)= .error (er,p)) (he:e= .returned (.tuple #[.agg (srcells [] civ0 0 nil).toArray,.int .i64 (er:Int),.int .i64 p])):ParseEnd s B e w':=by
 unfold ParseEnd;rw [h];exact he
theorem ParseEnd.of_ok {s:ByteArray} {B:Nat} {e:Ending} {w':World} {src:Source} {si:Value} (h:parse (bs s)= .ok src) (he:e= .returned (.tuple #[.agg (srcells src.name src.frm src.days si).toArray,.int .i64 0,.int .i64 0])) (hr:RowS B src.items si w'):ParseEnd s B e w':=by
 unfold ParseEnd;rw [h];exact ⟨si,he,hr⟩
theorem parse_p1 (s:ByteArray) (w:World) (hs:s.size≤9223372036854775807) (er:Nat) (p:Int) (hL:Lx.lex (bs s)= .error (er,p)):
  Calls Tryd.prog 11 #[.string s] w fun e w'=>ParseEnd s w.heap.size e w'∧Below w.heap.size w w':=by
 have hne:=lex_err_ne hL
 have HPE:Hid (parse (bs s)= .error (er,p)):=by show parse (bs s)=_;unfold parse;rw [hL]
 have HL:=hdd hL;clear hL
 have hb0:((er:Int)==0)=false:=beq_eq_false_iff_ne.2 (by omega)
 go_enter Tryd.func11,Tryd.ntmps11
 go_wp2_with fail
 refine (Lx.lex_no s _ hs er p HL.o).mono ?_
 rintro e w1 ⟨rfl,hb⟩
 have HR1:Hid (SB w.heap.size [] civ0 0 nil w1):=(hb.block w.heap.size (by simp)).trans (jq5 (by simp))
 have HB1:=hdd (((Below.refl w.heap.size w).alloc (Nat.le_refl _) _).trans (below_le hb (by simp)));clear hb
 have hl:(loadVar 27 ⟨w.heap.size,0,none⟩).run Tryd.prog (w1.setCells w.heap.size 0 (srcells [] civ0 0 nil).toArray.toList)= .ok (.agg (srcells [] civ0 0 nil).toArray) (w1.setCells w.heap.size 0 (srcells [] civ0 0 nil).toArray.toList):=by
  rw [List.toList_toArray]
  exact run_loadVar_mid _ _ _ _ (srcells [] civ0 0 nil) _ (World.rangeAt_setCells_same _ _ _ _ HR1.o.there) Tryd.underlying27 rfl jz4
 have HB9:=hdd (jk9 (Nat.le_refl _) (srcells [] civ0 0 nil).toArray.toList 0 w1 HB1.o)
 generalize hw9:w1.setCells w.heap.size 0 (srcells [] civ0 0 nil).toArray.toList=w9 at*
 have HL9:=hdd hl;have HW9:=hdd hw9
 clear hl hw9
 go_wp2_with (first|(refine wpList_build rfl 27 _ rfl #[] ?_ _ (build_src _) ?_;(simp))|(refine wpList_store_mid rfl 27 _ _ rfl w.heap.size 0 (srcells [] civ0 0 nil).toArray rfl rfl HR1.o.there jz4 (jz5 _ _ _ _ ⟨_,_,_,rfl⟩) ?_;rw [HW9.o]))
 exact bodyPost_ret (jj2 Tryd.results11 rfl rfl rfl HL9.o) rfl ⟨ParseEnd.of_err HPE.o rfl,HB9.o⟩
theorem PW_start {w1:World} {base cap size:Nat} {A:Option Addr} {ts:List Tok} (hO:w1.ownsRow base 40 4 (.slice A ts.length cap) ts.length (cellsAll ts)) (hw:Wks w1) (hl:ts.length≤5000):
  PW ⟨ts,A,cap,size⟩ w1.heap.size ⟨ts,0,0⟩ (w1.alloc (.cells (pcells ⟨ts,A,cap,size⟩ 0 ⟨ts,0,0⟩) 67)):=by
 refine ⟨hl,Nat.zero_le _,by simp,⟨⟨hw.1,?_⟩,?_⟩,0,Nat.zero_le _,rfl,kx5 _ _⟩
 ·intro i x hx
  rw [World.cell?_alloc_lt w1 _ _ hw.1]
  exact hw.2 i x hx
 ·intro hp
  obtain ⟨g,o,hA,hg,hc⟩:=toks_of_own hO hp
  refine ⟨g,o,hA,hg,fun i hi=>?_⟩
  obtain ⟨a0,a1,a2,a3⟩:=hc i hi
  exact ⟨(World.cell?_alloc_lt w1 _ _ hg).trans a0,(World.cell?_alloc_lt w1 _ _ hg).trans a1,(World.cell?_alloc_lt w1 _ _ hg).trans a2,(World.cell?_alloc_lt w1 _ _ hg).trans a3⟩
theorem RowS.carry {base base':Nat} {l:List Item} {v:Value} {W W':World} (h:RowS base l v W) (hc: ∀e z v n xs,W.ownsRow base e z v n xs→W'.ownsRow base' e z v n xs):RowS base' l v W':=by
 obtain ⟨vs,h⟩:=h
 exact ⟨vs,h.carry hc⟩
theorem parse_p3 (s:ByteArray) (w:World) (hs:s.size≤9223372036854775807) (hw:Wks w) (ts:List Tok) (hL:Lx.lex (bs s)= .ok ts) (src:Source) (sx:St) (hS:source ⟨ts,0,0⟩=(src,sx)) (he:sx.err=0):
  Calls Tryd.prog 11 #[.string s] w fun e w'=>ParseEnd s w.heap.size e w'∧Below w.heap.size w w':=by
 have HPE:Hid (parse (bs s)= .ok src):=by show parse (bs s)=_;unfold parse;rw [hL];simp only;rw [hS];simp only;rw [if_pos he]
 have HLN:=hdd (lex_len hL)
 have HL:=hdd hL;have HS:=hdd hS;have HE:=hdd he;have HWK:=hdd hw
 clear hL hS he hw
 go_enter Tryd.func11,Tryd.ntmps11
 go_wp2_with fail
 refine (Lx.lex_ok s _ hs ts HL.o).mono ?_
 rintro e w1 ⟨⟨A,cap,rfl,hO⟩,hb⟩
 have HR1:Hid (SB w.heap.size [] civ0 0 nil w1):=(hb.block w.heap.size (by simp)).trans (jq5 (by simp))
 have HB1:Hid (Below w.heap.size w w1):=((Below.refl w.heap.size w).alloc (Nat.le_refl _) _).trans (below_le hb (by simp))
 have HO:=hdd hO
 have hsz1:w.heap.size<w1.heap.size:=jq7 HR1.o
 clear hb hO
 have HPW:Hid (PW ⟨ts,A,cap,s.size⟩ w1.heap.size ⟨ts,0,0⟩ (w1.alloc (.cells (pcells ⟨ts,A,cap,s.size⟩ 0 ⟨ts,0,0⟩) 67))):=PW_start HO.o (HWK.o.below HB1.o) HLN.o
 go_wp2_with fail
 refine (source_any ⟨ts,A,cap,s.size⟩ w1.heap.size ⟨ts,0,0⟩ _ HPW.o).mono ?_
 rw [HS.o]
 rintro e w2 ⟨⟨si,rfl,hRS⟩,hA⟩
 obtain ⟨n0,_,_,_,_,_,_,c4,c5⟩:=hA.1.cells
 rw [HE.o] at c4
 have HR2:Hid (SB w.heap.size [] civ0 0 nil w2):=hA.2.blk (jq9 HR1.o _) (by omega)
 have HB2:Hid (Below w.heap.size w w2):=HB1.o.trans (((Fr.refl (fun k=>k=w1.heap.size) w1).alloc _).trans hA.2 |>.below (by omega) (fun k hk=>by omega))
 have HRS2:Hid (RowS (w.heap.size+1) src.items si w2):=hRS.carry fun e z v n xs ho=>own_base ho (by simp only [World.size_alloc];omega)
 have hq2:=hA.1.2.2.1
 have hf: ∃A n c,si= .slice A n c:=by obtain ⟨vs,h⟩:=hRS;obtain ⟨A,c,e⟩:=h.form;exact ⟨A,_,c,e⟩
 have HF:=hdd hf
 clear hA hRS c5 HPW HR1 hf
 have a4: ∀o,(w2.alloc o).cell? ⟨w1.heap.size,4,none⟩=some (.int .i64 0):=fun o=>(World.cell?_alloc_lt w2 o ⟨w1.heap.size,4,none⟩ hq2).trans c4
 clear c4
 have HS3:Hid (SB w2.heap.size src.name src.frm src.days si (w2.alloc (.cells (srcells src.name src.frm src.days si).toArray 27))):=jq5 rfl
 have HR3:Hid (SB w.heap.size [] civ0 0 nil (w2.alloc (.cells (srcells src.name src.frm src.days si).toArray 27))):=jq9 HR2.o _
 have HB3:Hid (Below w.heap.size w (w2.alloc (.cells (srcells src.name src.frm src.days si).toArray 27))):=HB2.o.alloc (by have:=HB2.o.size;omega) _
 have HRS3:Hid (RowS (w.heap.size+1) src.items si (w2.alloc (.cells (srcells src.name src.frm src.days si).toArray 27))):=HRS2.o.carry fun e z v n xs ho=>jx5 ho ((Fr.refl (fun _=>False) _).alloc _) (fun _ _ _ h=>h)
 have HLV:Hid (∀w3,SB w.heap.size [] civ0 0 nil w3→(loadVar 27 ⟨w.heap.size,0,none⟩).run Tryd.prog (w3.setCells w.heap.size 0 (srcells src.name src.frm src.days si).toArray.toList)= .ok (.agg (srcells src.name src.frm src.days si).toArray) (w3.setCells w.heap.size 0 (srcells src.name src.frm src.days si).toArray.toList)):=by
  intro w3 hw3
  rw [List.toList_toArray]
  exact run_loadVar_mid _ _ _ _ (srcells src.name src.frm src.days si) _ (World.rangeAt_setCells_same _ _ _ _ hw3.there) Tryd.underlying27 rfl jz4
 have HL9:=hdd (HLV.o _ HR3.o)
 have HB9:=hdd (jk9 (Nat.le_refl _) (srcells src.name src.frm src.days si).toArray.toList 0 _ HB3.o)
 have HRS9:Hid (RowS w.heap.size src.items si ((w2.alloc (.cells (srcells src.name src.frm src.days si).toArray 27)).setCells w.heap.size 0 (srcells src.name src.frm src.days si).toArray.toList)):=HRS3.o.carry fun e z v n xs ho=>own_base (jx5 ho (Fr.setCells (S:=fun k=>k=w.heap.size) (.inl rfl) _ _ _ (Fr.refl _ _)) (fun k hk _ e=>by omega)) (by omega)
 obtain ⟨w9,hw9⟩: ∃w9,(w2.alloc (.cells (srcells src.name src.frm src.days si).toArray 27)).setCells w.heap.size 0 (srcells src.name src.frm src.days si).toArray.toList=w9:=⟨_,rfl⟩
 rw [hw9] at HL9 HB9 HRS9
 have HW9:=hdd hw9
 clear hw9 HLV HB3 HRS3 HB2 HRS2 HR2
 go_wp2_with (first|(refine jq4 rfl 27 _ _ rfl rfl (srcells src.name src.frm src.days si).toArray rfl jz4 (jz5 _ _ _ _ HF.o) (by rfl) ?_)|(refine wpList_load_mid rfl 27 _ rfl w2.heap.size 0 rfl (srcells src.name src.frm src.days si) _ HS3.o.range Tryd.underlying27 rfl jz4 ?_)|(refine wpList_store_mid rfl 27 _ _ rfl w.heap.size 0 (srcells src.name src.frm src.days si).toArray rfl rfl HR3.o.there jz4 (jz5 _ _ _ _ HF.o) ?_;rw [HW9.o]))
 exact bodyPost_ret (jj2 Tryd.results11 rfl rfl rfl HL9.o) rfl ⟨ParseEnd.of_ok HPE.o rfl HRS9.o,HB9.o⟩
end Go.Proofs.YtfaflipphkoiiaaDoor.Pr
namespace Go.Proofs.YtfaflipphkoiiaaDoor.Pr
open Go.RowKit Mem
open Lx (Tok bs cellsAll cellsOf)
theorem parse_p2 (s:ByteArray) (w:World) (hs:s.size≤9223372036854775807) (hw:Wks w) (ts:List Tok) (hL:Lx.lex (bs s)= .ok ts) (src:Source) (sx:St) (hS:source ⟨ts,0,0⟩=(src,sx)) (he:sx.err≠0):
  Calls Tryd.prog 11 #[.string s] w fun e w'=>ParseEnd s w.heap.size e w'∧Below w.heap.size w w':=by
 have HPE:Hid (parse (bs s)= .error (sx.err,(atOf s.size sx:Int))):=by show parse (bs s)=_;unfold parse;rw [hL];simp only;rw [hS];simp only;rw [if_neg he,Lx.jx7]
 have HLN:=hdd (lex_len hL)
 have HL:=hdd hL;have HS:=hdd hS;have HE:=hdd he;have HWK:=hdd hw
 clear hL hS he hw
 go_enter Tryd.func11,Tryd.ntmps11
 go_wp2_with fail
 refine (Lx.lex_ok s _ hs ts HL.o).mono ?_
 rintro e w1 ⟨⟨A,cap,rfl,hO⟩,hb⟩
 have HR1:Hid (SB w.heap.size [] civ0 0 nil w1):=(hb.block w.heap.size (by simp)).trans (jq5 (by simp))
 have HB1:Hid (Below w.heap.size w w1):=((Below.refl w.heap.size w).alloc (Nat.le_refl _) _).trans (below_le hb (by simp))
 have HO:=hdd hO
 have hsz1:w.heap.size<w1.heap.size:=jq7 HR1.o
 clear hb hO
 have HPW:Hid (PW ⟨ts,A,cap,s.size⟩ w1.heap.size ⟨ts,0,0⟩ (w1.alloc (.cells (pcells ⟨ts,A,cap,s.size⟩ 0 ⟨ts,0,0⟩) 67))):=PW_start HO.o (HWK.o.below HB1.o) HLN.o
 go_wp2_with fail
 refine (source_any ⟨ts,A,cap,s.size⟩ w1.heap.size ⟨ts,0,0⟩ _ HPW.o).mono ?_
 rw [HS.o]
 rintro e w2 ⟨⟨si,rfl,hRS⟩,hA⟩
 obtain ⟨n0,_,_,_,_,_,_,c4,c5⟩:=hA.1.cells
 have HR2:Hid (SB w.heap.size [] civ0 0 nil w2):=hA.2.blk (jq9 HR1.o _) (by omega)
 have HB2:Hid (Below w.heap.size w w2):=HB1.o.trans (((Fr.refl (fun k=>k=w1.heap.size) w1).alloc _).trans hA.2 |>.below (by omega) (fun k hk=>by omega))
 have HRS2:Hid (RowS (w.heap.size+1) src.items si w2):=hRS.carry fun e z v n xs ho=>own_base ho (by simp only [World.size_alloc];omega)
 have hq2:=hA.1.2.2.1
 have hf: ∃A n c,si= .slice A n c:=by obtain ⟨vs,h⟩:=hRS;obtain ⟨A,c,e⟩:=h.form;exact ⟨A,_,c,e⟩
 have HF:=hdd hf
 clear hA hRS HPW HR1 hf HRS2
 have a4: ∀o,(w2.alloc o).cell? ⟨w1.heap.size,4,none⟩=some (.int .i64 (sx.err:Int)):=fun o=>(World.cell?_alloc_lt w2 o ⟨w1.heap.size,4,none⟩ hq2).trans c4
 have a5: ∀o,(w2.alloc o).cell? ⟨w1.heap.size,5,none⟩=some (.int .i64 (atOf s.size sx:Int)):=fun o=>(World.cell?_alloc_lt w2 o ⟨w1.heap.size,5,none⟩ hq2).trans c5
 clear c4 c5
 have hb0:((sx.err:Int)==0)=false:=beq_eq_false_iff_ne.2 (by have:=HE.o;omega)
 have HR3:Hid (SB w.heap.size [] civ0 0 nil (w2.alloc (.cells (srcells src.name src.frm src.days si).toArray 27))):=jq9 HR2.o _
 have HB3:Hid (Below w.heap.size w (w2.alloc (.cells (srcells src.name src.frm src.days si).toArray 27))):=HB2.o.alloc (by have:=HB2.o.size;omega) _
 have g4:=a4 (.cells (srcells src.name src.frm src.days si).toArray 27)
 have g5:=a5 (.cells (srcells src.name src.frm src.days si).toArray 27)
 clear HB2 HR2
 go_wp2_with (refine jq4 rfl 27 _ _ rfl rfl (srcells src.name src.frm src.days si).toArray rfl jz4 (jz5 _ _ _ _ HF.o) (by rfl) ?_)
 clear a4 a5
 generalize w2.alloc (.cells (srcells src.name src.frm src.days si).toArray 27)=w3 at*
 have r0:w3.cell? ⟨w.heap.size,0,none⟩=some (.string ⟨#[]⟩):=jq0 HR3.o 0
 have r1:w3.cell? ⟨w.heap.size,1,none⟩=some (.int .i64 0):=jq0 HR3.o 1
 have r2:w3.cell? ⟨w.heap.size,2,none⟩=some (.int .i64 0):=jq0 HR3.o 2
 have r3:w3.cell? ⟨w.heap.size,3,none⟩=some (.int .i64 0):=jq0 HR3.o 3
 have r4:w3.cell? ⟨w.heap.size,4,none⟩=some (.int .i64 0):=jq0 HR3.o 4
 have r5:w3.cell? ⟨w.heap.size,5,none⟩=some (.slice none 0 0):=jq0 HR3.o 5
 have z0:w3.frozen? ⟨w.heap.size,0,none⟩=false:=jq1 HR3.o 0
 have z1:w3.frozen? ⟨w.heap.size,1,none⟩=false:=jq1 HR3.o 1
 have z2:w3.frozen? ⟨w.heap.size,2,none⟩=false:=jq1 HR3.o 2
 have z3:w3.frozen? ⟨w.heap.size,3,none⟩=false:=jq1 HR3.o 3
 have z4:w3.frozen? ⟨w.heap.size,4,none⟩=false:=jq1 HR3.o 4
 have z5:w3.frozen? ⟨w.heap.size,5,none⟩=false:=jq1 HR3.o 5
 go_region
 have HS9:Hid (SB w.heap.size [] civ0 0 nil ((((((w3.setCell ⟨w.heap.size,0,none⟩ (.string ⟨#[]⟩)).setCell ⟨w.heap.size,1,none⟩ (.int .i64 0)).setCell ⟨w.heap.size,2,none⟩ (.int .i64 0)).setCell ⟨w.heap.size,3,none⟩ (.int .i64 0)).setCell ⟨w.heap.size,4,none⟩ (.int .i64 0)).setCell ⟨w.heap.size,5,none⟩ (.slice none 0 0)).drew):=by
  have b0:w3.heap[w.heap.size]?=some (.cells (srcells [] civ0 0 nil).toArray 27 (0,0)):=HR3.o
  have b1:=jx4 b0 0 (.string ⟨#[]⟩)
  have b2:=jx4 b1 1 (.int .i64 0)
  have b3:=jx4 b2 2 (.int .i64 0)
  have b4:=jx4 b3 3 (.int .i64 0)
  have b5:=jx4 b4 4 (.int .i64 0)
  have b6:=jx4 b5 5 (.slice none 0 0)
  exact jx2 b6 1
 have HB9:Hid (Below w.heap.size w ((((((w3.setCell ⟨w.heap.size,0,none⟩ (.string ⟨#[]⟩)).setCell ⟨w.heap.size,1,none⟩ (.int .i64 0)).setCell ⟨w.heap.size,2,none⟩ (.int .i64 0)).setCell ⟨w.heap.size,3,none⟩ (.int .i64 0)).setCell ⟨w.heap.size,4,none⟩ (.int .i64 0)).setCell ⟨w.heap.size,5,none⟩ (.slice none 0 0)).drew):=by
  show Below w.heap.size w ((((((w3.setCell ⟨w.heap.size,0,none⟩ (.string ⟨#[]⟩)).setCell ⟨w.heap.size,1,none⟩ (.int .i64 0)).setCell ⟨w.heap.size,2,none⟩ (.int .i64 0)).setCell ⟨w.heap.size,3,none⟩ (.int .i64 0)).setCell ⟨w.heap.size,4,none⟩ (.int .i64 0)).setCell ⟨w.heap.size,5,none⟩ (.slice none 0 0)).drew
  exact below_drewN ((((((HB3.o.setCell (p:=⟨w.heap.size,0,none⟩) (Nat.le_refl _) _).setCell (p:=⟨w.heap.size,1,none⟩) (Nat.le_refl _) _).setCell (p:=⟨w.heap.size,2,none⟩) (Nat.le_refl _) _).setCell (p:=⟨w.heap.size,3,none⟩) (Nat.le_refl _) _).setCell (p:=⟨w.heap.size,4,none⟩) (Nat.le_refl _) _).setCell (p:=⟨w.heap.size,5,none⟩) (Nat.le_refl _) _) 1
 clear r0 r1 r2 r3 r4 r5 z0 z1 z2 z3 z4 z5 g4 g5
 generalize ((((((w3.setCell ⟨w.heap.size,0,none⟩ (.string ⟨#[]⟩)).setCell ⟨w.heap.size,1,none⟩ (.int .i64 0)).setCell ⟨w.heap.size,2,none⟩ (.int .i64 0)).setCell ⟨w.heap.size,3,none⟩ (.int .i64 0)).setCell ⟨w.heap.size,4,none⟩ (.int .i64 0)).setCell ⟨w.heap.size,5,none⟩ (.slice none 0 0)).drew=w9 at*
 have HL9:Hid ((loadVar 27 ⟨w.heap.size,0,none⟩).run Tryd.prog w9= .ok (.agg (srcells [] civ0 0 nil).toArray) w9):=run_loadVar_mid _ _ _ _ (srcells [] civ0 0 nil) _ HS9.o.range Tryd.underlying27 rfl jz4
 go_wp2_with fail
 exact bodyPost_ret (jj2 Tryd.results11 rfl rfl rfl HL9.o) rfl ⟨ParseEnd.of_err HPE.o rfl,HB9.o⟩
theorem parse_any (s:ByteArray) (w:World) (hs:s.size≤9223372036854775807) (hw:Wks w):
  Calls Tryd.prog 11 #[.string s] w fun e w'=>ParseEnd s w.heap.size e w'∧Below w.heap.size w w':=by
 cases hL:Lx.lex (bs s) with
 |error x=>
  obtain ⟨er,p⟩:=x
  exact parse_p1 s w hs er p hL
 |ok ts=>
  obtain ⟨src,sx,hS⟩: ∃src sx,source ⟨ts,0,0⟩=(src,sx):=⟨_,_,rfl⟩
  by_cases he:sx.err=0
  ·exact parse_p3 s w hs hw ts hL src sx hS he
  ·exact parse_p2 s w hs hw ts hL src sx hS he
theorem parse_ok (s:ByteArray) (w:World) (hs:s.size≤9223372036854775807) (hw:Wks w) (src:Source) (h:parse (bs s)= .ok src):
  Calls Tryd.prog 11 #[.string s] w fun e w'=>(∃si,e= .returned (.tuple #[.agg (srcells src.name src.frm src.days si).toArray,.int .i64 0,.int .i64 0])∧RowS w.heap.size src.items si w')∧Below w.heap.size w w':=by
 refine (parse_any s w hs hw).mono fun e w' ⟨h1,h2⟩=>⟨?_,h2⟩
 unfold ParseEnd at h1
 rw [h] at h1
 exact h1
theorem parse_no (s:ByteArray) (w:World) (hs:s.size≤9223372036854775807) (hw:Wks w) (er:Nat) (p:Int) (h:parse (bs s)= .error (er,p)):
  Calls Tryd.prog 11 #[.string s] w fun e w'=>e= .returned (.tuple #[.agg (srcells [] civ0 0 nil).toArray,.int .i64 (er:Int),.int .i64 p])∧Below w.heap.size w w':=by
 refine (parse_any s w hs hw).mono fun e w' ⟨h1,h2⟩=>⟨?_,h2⟩
 unfold ParseEnd at h1
 rw [h] at h1
 exact h1
end Go.Proofs.YtfaflipphkoiiaaDoor.Pr
namespace Go.Proofs.YtfaflipphkoiiaaDoor.Pr
open Go.RowKit Mem
open Lx (Tok bs)
def Row (W:World) (v:Value) (z:Nat) (xs:List (List Value)):Prop:=
 ∃A cap,v= .slice A xs.length cap∧(xs.length≤cap∧cap≤9223372036854775807)∧(xs= []∨ ∃g o,A=some ⟨g,o,none⟩∧g<W.heap.size∧ ∀i x,xs[i]?=some x→W.rangeAt g (o+i*z) x)
theorem Row.below {W W':World} {v:Value} {z:Nat} {xs:List (List Value)} (h:Row W v z xs) (hb:Below W.heap.size W W'):Row W' v z xs:=by
 obtain ⟨A,cap,rfl,hc,h⟩:=h
 refine ⟨A,cap,rfl,hc,?_⟩
 rcases h with h|⟨g,o,hA,hg,hr⟩
 ·exact .inl h
 ·refine .inr ⟨g,o,hA,Nat.lt_of_lt_of_le hg hb.size,fun i x hx j u hj=>?_⟩
  exact (hb.cell (p:=⟨g,_,none⟩) hg).trans (hr i x hx j u hj)
theorem Row.nil (W:World) (z:Nat):Row W Pr.nil z []:=⟨none,0,rfl,⟨Nat.le_refl _,by decide⟩,.inl rfl⟩
theorem flat_at {α:Type} (f:α→List Value) (z:Nat) (l:List α) (hz: ∀x∈l,(f x).length=z): ∀(i:Nat) (x:List Value),(l.map f)[i]?=some x→ ∀j u,x[j]?=some u→(l.flatMap f)[i*z+j]?=some u:=by
 induction l with
 |nil=>intro i x hx;simp at hx
 |cons a l ih=>
  intro i x hx j u hj
  have ha:=hz a (by simp)
  rw [List.flatMap_cons]
  cases i with
  |zero=>
   simp only [List.map_cons,List.getElem?_cons_zero] at hx
   injection hx with hx
   subst hx
   have hl:j<(f a).length:=(List.getElem?_eq_some_iff.1 hj).1
   rw [Nat.zero_mul,Nat.zero_add,List.getElem?_append_left hl]
   exact hj
  |succ i=>
   simp only [List.map_cons,List.getElem?_cons_succ] at hx
   rw [List.getElem?_append_right (by rw [ha,Nat.succ_mul];omega),ha,show (i+1)*z+j-z=i*z+j by rw [Nat.succ_mul];omega]
   exact ih (fun x hx=>hz x (by simp [hx])) i x hx j u hj
theorem Row.of_own {α:Type} {f:α→List Value} {z:Nat} {l:List α} {W:World} {base:Nat} {e:TypeId} {v:Value} (h:W.ownsRow base e z v l.length (l.flatMap f)) (hz: ∀x∈l,(f x).length=z):Row W v z (l.map f):=by
 rcases h.2 with ⟨rfl,h0⟩|⟨g,cap,cur,rfl,hg,hh,hn,hm,hsz,ht⟩
 ·have:l= []:=List.eq_nil_of_length_eq_zero h0
  subst this
  exact Row.nil W z
 ·refine ⟨_,cap,by rw [List.length_map],⟨by rw [List.length_map];exact hn,by unfold maxLen at hm;omega⟩,.inr ⟨g,0,rfl,jq7 hh,fun i x hx j u hj=>?_⟩⟩
  have:=flat_at f z l hz i x hx j u hj
  rw [Nat.zero_add]
  unfold World.cell?
  simp only [hh]
  rw [←ht,List.getElem?_take] at this
  split at this
  ·simpa using this
  ·cases this
theorem Row.len {W:World} {v:Value} {z:Nat} {xs:List (List Value)} (h:Row W v z xs):xs.length≤9223372036854775807:=by
 obtain ⟨A,c,e,⟨h1,h2⟩,_⟩:=h
 omega
abbrev Sx:=Flat×Value×Value×Value×Value
def IsSlice (v:Value):Prop:= ∃A n c,v= .slice A n c
def sxc (x:Sx):List Value:=icells x.1 x.2.1 x.2.2.1 x.2.2.2.1 x.2.2.2.2
theorem Row.form {W:World} {v:Value} {z:Nat} {xs:List (List Value)} (h:Row W v z xs): ∃A n c,v= .slice A n c:=by
 obtain ⟨A,c,e,_⟩:=h
 exact ⟨A,_,c,e⟩
theorem Row.at {W:World} {v:Value} {z:Nat} {xs:List (List Value)} (h:Row W v z xs) (hne:xs≠ []): ∃g o cap,v= .slice (some ⟨g,o,none⟩) xs.length cap∧g<W.heap.size∧ ∀i x,xs[i]?=some x→W.rangeAt g (o+i*z) x:=by
 obtain ⟨A,c,e,_,hr⟩:=h
 obtain ⟨g,o,hA,hg,hr2⟩:=hr.resolve_left hne
 subst hA
 exact ⟨g,o,c,e,hg,hr2⟩
def VFlat (W:World) (f:Flat) (sc sd sn:Value):Prop:=Row W sc 2 (f.conds.map cval)∧Row W sd 3 (f.dates.map dval)∧Row W sn 1 (f.names.map fun x=> [sv x])
def VInner (W:World) (l:List Flat) (v:Value):Prop:= ∃vs:List (Value×Value×Value),vs.length=l.length∧Row W v 33 ((l.zip vs).map fun p=>icells p.1 p.2.1 p.2.2.1 p.2.2.2 nil)∧ ∀p∈l.zip vs,VFlat W p.1 p.2.1 p.2.2.1 p.2.2.2
def VItems (W:World) (l:List Item) (v:Value):Prop:= ∃vs:List Sl,vs.length=l.length∧Row W v 33 ((l.zip vs).map fun p=>icells p.1.flat p.2.1 p.2.2.1 p.2.2.2.1 p.2.2.2.2)∧ ∀p∈l.zip vs,VFlat W p.1.flat p.2.1 p.2.2.1 p.2.2.2.1∧VInner W p.1.inner p.2.2.2.2
theorem VFlat.below {W W':World} {f:Flat} {sc sd sn:Value} (h:VFlat W f sc sd sn) (hb:Below W.heap.size W W'):VFlat W' f sc sd sn:=⟨h.1.below hb,h.2.1.below hb,h.2.2.below hb⟩
theorem VInner.below {W W':World} {l:List Flat} {v:Value} (h:VInner W l v) (hb:Below W.heap.size W W'):VInner W' l v:=by
 obtain ⟨vs,h1,h2,h3⟩:=h
 exact ⟨vs,h1,h2.below hb,fun p hp=>(h3 p hp).below hb⟩
theorem VItems.below {W W':World} {l:List Item} {v:Value} (h:VItems W l v) (hb:Below W.heap.size W W'):VItems W' l v:=by
 obtain ⟨vs,h1,h2,h3⟩:=h
 exact ⟨vs,h1,h2.below hb,fun p hp=>⟨(h3 p hp).1.below hb,(h3 p hp).2.below hb⟩⟩
theorem VFlat.of {W:World} {base:Nat} {f:Flat} {sc sd sn:Value} (h:FlatOK base f sc sd sn W):VFlat W f sc sd sn:=by
 refine ⟨Row.of_own h.1 (fun _ _=>rfl),Row.of_own h.2.1 (fun _ _=>rfl),?_⟩
 have e:f.names.map sv=f.names.flatMap fun x=> [sv x]:=by induction f.names with|nil=>rfl|cons a l ih=>simp [ih]
 have h3:=h.2.2
 rw [e] at h3
 exact Row.of_own h3 (fun _ _=>rfl)
theorem jk5 {α β:Type} {l:List α} {vs:List β} (h:vs.length=l.length):(l.zip vs).length=l.length:=by simp [h]
theorem VInner.of {W:World} {base:Nat} {l:List Flat} {v:Value} (h:RowI base l v W):VInner W l v:=by
 obtain ⟨_,vs,h1,h2,h3⟩:=h
 rw [←jk5 h1] at h2
 exact ⟨vs,h1,Row.of_own h2 (fun _ _=>rfl),fun p hp=>VFlat.of (h3 p hp)⟩
theorem VItems.of {W:World} {base:Nat} {l:List Item} {v:Value} (h:RowS base l v W):VItems W l v:=by
 obtain ⟨vs,_,h1,h2,h3⟩:=h
 unfold scells at h2
 rw [←jk5 h1] at h2
 exact ⟨vs,h1,Row.of_own h2 (fun _ _=>rfl),fun p hp=>⟨VFlat.of (h3 p hp).1,VInner.of (h3 p hp).2.1⟩⟩
theorem VItems.form {W:World} {l:List Item} {v:Value} (h:VItems W l v): ∃A cap,v= .slice A l.length cap∧l.length≤cap:=by
 obtain ⟨vs,h1,⟨A,cap,e,hc,_⟩,_⟩:=h
 rw [List.length_map,jk5 h1] at e hc
 exact ⟨A,cap,e,hc.1⟩
theorem VItems.slice {W:World} {l:List Item} {v:Value} (h:VItems W l v): ∃A n c,v= .slice A n c:=by
 obtain ⟨A,cap,e,_⟩:=h.form
 exact ⟨A,_,cap,e⟩
theorem VInner.form {W:World} {l:List Flat} {v:Value} (h:VInner W l v): ∃A n c,v= .slice A n c:=by
 obtain ⟨vs,_,h,_⟩:=h
 exact h.form
theorem parse_okv (s:ByteArray) (w:World) (hs:s.size≤9223372036854775807) (hw:Wks w) (src:Source) (h:parse (bs s)= .ok src):
  Calls Tryd.prog 11 #[.string s] w fun e w'=>(∃si,e= .returned (.tuple #[.agg (srcells src.name src.frm src.days si).toArray,.int .i64 0,.int .i64 0])∧VItems w' src.items si)∧Below w.heap.size w w':=
 (parse_ok s w hs hw src h).mono fun e w' ⟨⟨si,he,hr⟩,hb⟩=>⟨⟨si,he,VItems.of hr⟩,hb⟩
end Go.Proofs.YtfaflipphkoiiaaDoor.Pr
