/-
  What some functions of the reference's parser return (printed by mkrp7.py): kind. What some functions of the reference's parser return (printed by mkrp8.py): item.
-/
import Derived.Test.YtfaflipphkoiiaaDoorRpH
import Derived.Test.YtfaflipphkoiiaaDoorParGenE
import Derived.Deep.RegionHeld3
set_option maxHeartbeats 64000000
set_option maxRecDepth 100000
set_option linter.unusedVariables false
namespace Go.Proofs.YtfaflipphkoiiaaDoor.Rp
open Go.RowKit Mem Pr
open Lx (Tok isDigit isLetter isSym)
def kindW:List Bytes:= []::rwords.map Prod.fst
theorem kind_at: ∀(k:Nat) (x:Bytes),kindW[k]?=some x→1≤k→ ∃j,k=j+1∧rwords[j]?=some (x,k):=by
 intro k x h ha
 have hk:k<15:=(List.getElem?_eq_some_iff.1 h).1
 have hc:k=0∨k=1∨k=2∨k=3∨k=4∨k=5∨k=6∨k=7∨k=8∨k=9∨k=10∨k=11∨k=12∨k=13∨k=14:=by omega
 rcases hc with rfl|rfl|rfl|rfl|rfl|rfl|rfl|rfl|rfl|rfl|rfl|rfl|rfl|rfl|rfl<;>first|omega|(injection h with h;subst h;exact ⟨_,rfl,rfl⟩)
theorem nd_kind: ∀(k:Nat) (x:Bytes),kindW[k]?=some x→1≤k→nd x:=by
 intro k x h ha
 have hk:k<15:=(List.getElem?_eq_some_iff.1 h).1
 have hc:k=0∨k=1∨k=2∨k=3∨k=4∨k=5∨k=6∨k=7∨k=8∨k=9∨k=10∨k=11∨k=12∨k=13∨k=14:=by omega
 rcases hc with rfl|rfl|rfl|rfl|rfl|rfl|rfl|rfl|rfl|rfl|rfl|rfl|rfl|rfl|rfl<;>first|omega|(injection h with h;subst h;exact nd_of (by decide))
theorem rkind_yes (i:Bool) (s:St): ∀(l:List (Bytes×Nat)) (j:Nat) (p:Bytes×Nat),(∀(k:Nat) (q:Bytes×Nat),l[k]?=some q→k<j→(isT q.1 s&&okIn i q.2)=false)→l[j]?=some p→(isT p.1 s&&okIn i p.2)=true→rkind i s l=p.2
 | [],j,p,_,h,_=>by simp at h
 |y::l,0,p,_,h,ht=>by
  have h:y=p:=by simpa using h
  subst h
  unfold rkind
  rw [if_pos ht]
 |y::l,j+1,p,hk,h,ht=>by
  unfold rkind
  rw [if_neg (by rw [hk 0 y rfl (Nat.succ_pos _)];decide)]
  exact rkind_yes i s l j p (fun k q hq hl=>hk (k+1) q (by simpa using hq) (by omega)) (by simpa using h) ht
theorem rkind_no (i:Bool) (s:St): ∀(l:List (Bytes×Nat)),(∀(k:Nat) (q:Bytes×Nat),l[k]?=some q→(isT q.1 s&&okIn i q.2)=false)→rkind i s l=0
 | [],_=>rfl
 |y::l,h=>by
  unfold rkind
  rw [if_neg (by rw [h 0 y rfl];decide)]
  exact rkind_no i s l (fun k q hq=>h (k+1) q (by simpa using hq))
theorem words_at: ∀(k:Nat) (q:Bytes×Nat),rwords[k]?=some q→kindW[k+1]?=some q.1∧q.2=k+1:=by
 intro k q h
 have hk:k<14:=(List.getElem?_eq_some_iff.1 h).1
 have hc:k=0∨k=1∨k=2∨k=3∨k=4∨k=5∨k=6∨k=7∨k=8∨k=9∨k=10∨k=11∨k=12∨k=13:=by omega
 rcases hc with rfl|rfl|rfl|rfl|rfl|rfl|rfl|rfl|rfl|rfl|rfl|rfl|rfl|rfl<;>(injection h with h;subst h;exact ⟨rfl,rfl⟩)
theorem jv1 (E:Env) (b:Nat) (s:St) (W:World) (h:PW E b s W) (i:Bool):
  Calls Tryd.prog 45 #[.pointer (some ⟨b,0,none⟩),.bool i] W fun e w'=>e= .returned (.int .i64 (rkind i s rwords:Int))∧After E b s W w':=by
 have hbl:=h.2.2.1
 obtain ⟨g,HG⟩: ∃q,Hid (W.heap.size=q):=⟨_,rfl⟩
 obtain ⟨w0,hw0⟩: ∃u,W.alloc (.cells (kindW.map sv).toArray 9)=u:=⟨_,rfl⟩
 have HB0:Hid (w0.heap[g]?=some (.cells (kindW.map sv).toArray 9 (0,0))):=by rw [←hw0];exact jq5 HG.o.symm
 have HA0:Hid (After E b s W w0):=by rw [←hw0];exact (After.start h).alloc _
 have HBG:Hid (b≠g):=by show _≠_;have:=HG.o;omega
 have HW0:Hid (W.alloc (.cells #[.string ⟨#[]⟩,.string ⟨[112,97,114,116,121].toArray⟩,.string ⟨[114,111,108,101].toArray⟩,.string ⟨[117,110,105,116].toArray⟩,.string ⟨[119,101,101,107,101,110,100].toArray⟩,.string ⟨[104,111,108,105,100,97,121].toArray⟩,.string ⟨[115,112,97,110].toArray⟩,.string ⟨[115,117,109].toArray⟩,.string ⟨[97,99,116].toArray⟩,.string ⟨[100,117,116,121].toArray⟩,.string ⟨[98,97,110].toArray⟩,.string ⟨[111,112,116,105,111,110].toArray⟩,.string ⟨[119,97,116,99,104].toArray⟩,.string ⟨[116,101,109,112,108,97,116,101].toArray⟩,.string ⟨[105,110,99,108,117,100,101].toArray⟩] 9)=w0):=hw0
 clear h hw0
 go_enter Tryd.func45,Tryd.ntmps45
 go_upto_region 2 with fail
 rw [HW0.o,HG.o]
 clear HW0
 go_wp2_with fail
 go_loopw [6] (fun v wr=> ∃j:Nat,v= .int .i64 j∧1≤j∧j≤15∧Hid (∀k x,kindW[k]?=some x→1≤k→k<j→(isT x s&&okIn i k)=false)∧Hid (After E b s W wr)∧Hid (wr.heap[g]?=some (.cells (kindW.map sv).toArray 9 (0,0)))) (fun v _=>15-(intOf v).toNat)
 case atStart=>exact ⟨1,rfl,Nat.le_refl _,by decide,hdd (fun k x hx h1 h2=>by omega),HA0,HB0⟩
 case round=>
  obtain ⟨j,rfl,hja,hj,HPRE,HA,HB⟩:=hrel
  have i1:(0:Int)≤(j:Int):=Int.natCast_nonneg _
  by_cases hlt:j<15
  ·have i2:(j:Int)<15:=by omega
   obtain ⟨x,hx⟩: ∃x,kindW[j]?=some x:=⟨_,List.getElem?_eq_getElem hlt⟩
   have c0:wr.cell? ⟨g,j,none⟩=some (.string ⟨x.toArray⟩):=(jq0 HB.o j).trans (by rw [List.getElem?_toArray,List.getElem?_map,hx];rfl)
   have HND:=hdd (nd_kind j x hx hja)
   have HX:=hdd hx
   have HYES:Hid ((isT x s&&okIn i j)=true→rkind i s rwords=j):=fun hy=>by
    obtain ⟨j',rfl,hw⟩:=kind_at j x HX.o hja
    exact rkind_yes i s rwords j' (x,j'+1) (fun k q hq hl=>by
     obtain ⟨h1,h2⟩:=words_at k q hq
     rw [h2]
     exact HPRE.o (k+1) q.1 h1 (by omega) (by omega)) hw hy
   have HNO:Hid (∀w1,After E b s W w1→(w1.heap[g]?=some (.cells (kindW.map sv).toArray 9 (0,0)))→(isT x s&&okIn i j)=false→Hid (∀k y,kindW[k]?=some y→1≤k→k<j+1→(isT y s&&okIn i k)=false)):=fun w1 _ _ hn=>hdd (fun k y hy h1 h2=>by
    rcases Nat.lt_succ_iff_lt_or_eq.1 h2 with h3|rfl
    ·exact HPRE.o k y hy h1 h3
    ·rw [HX.o] at hy;injection hy with hy;subst hy;exact hn)
   clear hx
   cases hi:isT x s with
   |false=>
    rw [hi] at HNO
    have HI:=hdd hi
    clear hi HYES
    go_wp2_with fail
    refine (jz3 E b s x _ HA.o.1 HND.o).mono ?_
    rw [HI.o]
    rintro e w1 ⟨rfl,m,rfl⟩
    have HA1:Hid (After E b s W (wr.drewN m)):=HA.o.drewN m
    have HB1:Hid ((wr.drewN m).heap[g]?=some (.cells (kindW.map sv).toArray 9 (0,0))):=jx2 HB.o m
    go_wp2_with fail
    go_roundw
    case rel=>exact ⟨j+1,by go_num,by omega,by omega,HNO.o _ HA1.o HB1.o rfl,HA1,HB1⟩
    case measure=>simp [intOf];omega
   |true=>
    rw [hi] at HNO HYES
    have HI:=hdd hi
    clear hi
    cases hk:okIn i j with
    |true=>
     rw [hk] at HYES
     have HR:Hid (rkind i s rwords=j):=HYES.o rfl
     clear HYES HNO
     cases i with
     |false=>
      clear hk
      go_wp2_with fail
      refine (jz3 E b s x _ HA.o.1 HND.o).mono ?_
      rw [HI.o]
      rintro e w1 ⟨rfl,m,rfl⟩
      go_wp2_with fail
      go_ret
      exact ⟨ret_int (by rw [HR.o]),HA.o.drewN m⟩
     |true=>
      have h9:9≤j∧j≠13:=by simpa [okIn] using hk
      have d9:(9:Int)≤(j:Int):=by omega
      have d13:((j:Int) !=13)=true:=by rw [bne_iff_ne];omega
      clear hk
      go_wp2_with fail
      refine (jz3 E b s x _ HA.o.1 HND.o).mono ?_
      rw [HI.o]
      rintro e w1 ⟨rfl,m,rfl⟩
      go_wp2_with fail
      go_ret
      exact ⟨ret_int (by rw [HR.o]),HA.o.drewN m⟩
    |false=>
     rw [hk] at HNO
     have hit:i=true:=by
      cases i with
      |true=>rfl
      |false=>simp [okIn] at hk
     subst hit
     have h9: ¬(9≤j∧j≠13):=by intro hh;simp [okIn,hh.1,hh.2] at hk
     clear hk HYES
     by_cases h13:j=13
     ·have d9:(9:Int)≤(j:Int):=by omega
      have d13:((j:Int) !=13)=false:=by simp;omega
      clear h9 h13
      go_wp2_with fail
      refine (jz3 E b s x _ HA.o.1 HND.o).mono ?_
      rw [HI.o]
      rintro e w1 ⟨rfl,m,rfl⟩
      have HA1:Hid (After E b s W (wr.drewN m)):=HA.o.drewN m
      have HB1:Hid ((wr.drewN m).heap[g]?=some (.cells (kindW.map sv).toArray 9 (0,0))):=jx2 HB.o m
      go_wp2_with fail
      go_roundw
      case rel=>exact ⟨j+1,by go_num,by omega,by omega,HNO.o _ HA1.o HB1.o rfl,HA1,HB1⟩
      case measure=>simp [intOf];omega
     ·have d9: ¬(9:Int)≤(j:Int):=by omega
      clear h9 h13
      go_wp2_with fail
      refine (jz3 E b s x _ HA.o.1 HND.o).mono ?_
      rw [HI.o]
      rintro e w1 ⟨rfl,m,rfl⟩
      have HA1:Hid (After E b s W (wr.drewN m)):=HA.o.drewN m
      have HB1:Hid ((wr.drewN m).heap[g]?=some (.cells (kindW.map sv).toArray 9 (0,0))):=jx2 HB.o m
      go_wp2_with fail
      go_roundw
      case rel=>exact ⟨j+1,by go_num,by omega,by omega,HNO.o _ HA1.o HB1.o rfl,HA1,HB1⟩
      case measure=>simp [intOf];omega
  ·obtain rfl:j=15:=by omega
   have HR:Hid (rkind i s rwords=0):=rkind_no i s rwords (fun k q hq=>by
    obtain ⟨h1,h2⟩:=words_at k q hq
    have hk:k<14:=(List.getElem?_eq_some_iff.1 hq).1
    rw [h2]
    exact HPRE.o (k+1) q.1 h1 (by omega) (by omega))
   go_wp2_with fail
   go_ret
   exact ⟨ret_int (by rw [HR.o];rfl),HA.o⟩
end Go.Proofs.YtfaflipphkoiiaaDoor.Rp
namespace Go.Proofs.YtfaflipphkoiiaaDoor.Rp
open Go.RowKit Mem Pr
open Lx (Tok isDigit isLetter isSym)
theorem jz6 (k:Nat) (w:World):(Instr.build 57 #[(0,.int .i64 (k:Int))]).run Tryd.prog w= .ok (.agg (icells {flat0 with kind:=k} nil nil nil nil).toArray) w:=by kernel_rfl
theorem rkind_ne (i:Bool) (s:St): ∀(l:List (Bytes×Nat)),rkind i s l≠0→s.err=0∧ ∃t r,s.rest=t::r
 | [],h=>absurd rfl h
 |p::l,h=>by
  unfold rkind at h
  cases hi:isT p.1 s with
  |true=>
   obtain ⟨he,t,r,hr,_⟩:=isT_err hi
   exact ⟨he,t,r,hr⟩
  |false=>
   rw [hi] at h
   exact rkind_ne i s l (by simpa using h)
theorem jv8 {E:Env} {b n:Nat} {s:St} {W:World} (h:W.heap[b]?=some (.cells (pcells E n s) 71 (0,0))) (he:s.err=0):
  ((W.setCell ⟨b,3,none⟩ (.int .i64 ((s.items:Int)+1))).setCell ⟨b,1,none⟩ (.int .i64 ((n:Int)+1))).heap[b]?=some (.cells (pcells E (n+1) ⟨s.rest.tail,s.items+1,0⟩) 71 (0,0)):=by
 have:=jx4 (jx4 h 3 (.int .i64 ((s.items:Int)+1))) 1 (.int .i64 ((n:Int)+1))
 have e:atOf E.size ⟨s.rest.tail,s.items+1,0⟩=atOf E.size s:=by simp [atOf,he]
 unfold pcells
 rw [e]
 unfold pcells at this
 rw [he] at this
 exact this
theorem IB.set_pos {q:Nat} {f:Flat} {sc sd sn si:Value} {W:World} (h:IB q f sc sd sn si W) (x:Nat):IB q {f with pos:=x} sc sd sn si (W.setCell ⟨q,2,none⟩ (.int .i64 (x:Int))):=by
 have h2:=jx4 h 2 (.int .i64 (x:Int))
 exact h2
theorem After.setCells {E:Env} {b:Nat} {s:St} {W W1:World} (h:After E b s W W1) {q:Nat} (hq:W.heap.size≤q) (hb:b<q) (o:Nat) (vs:List Value):After E b s W (W1.setCells q o vs):=
 ⟨h.1.fr (S:=fun k=>k=q) (Fr.setCells (S:=fun k=>k=q) (.inl rfl) vs o _ (Fr.refl _ _)) (fun k hk e=>by omega),Fr.setCells (.inr hq) vs o _ h.2⟩
theorem item_end {E:Env} {b:Nat} {s:St} {W w2:World} {g:Flat} {a1 a2 a3 a4:Value} (HR:IB W.heap.size g a1 a2 a3 a4 w2) (HA:After E b s W w2) (hb:b<W.heap.size) (F:Flat) (sc sd sn si:Value):
  ∃w3,w2.setCells W.heap.size 0 (icells F sc sd sn si).toArray.toList=w3∧After E b s W w3∧(loadVar 57 ⟨W.heap.size,0,none⟩).run Tryd.prog w3= .ok (.agg (icells F sc sd sn si).toArray) w3∧
   (∀base e z v n xs,W.heap.size<base→w2.ownsRow base e z v n xs→w3.ownsRow base e z v n xs):=by
 refine ⟨_,rfl,HA.setCells (Nat.le_refl _) hb _ _,?_,?_⟩
 ·rw [List.toList_toArray]
  exact run_loadVar_mid _ _ _ _ (icells F sc sd sn si) _ (World.rangeAt_setCells_same _ _ _ _ (by rw [jj6];exact HR.there)) Tryd.underlying57 rfl (jx6 _ _ _ _ _)
 ·intro base e z v n xs hl ho
  exact jx5 ho (Fr.setCells (S:=fun k=>k=W.heap.size) (.inl rfl) _ _ _ (Fr.refl _ _)) (fun k hk _ e=>by omega)
theorem item_p1 (E:Env) (b:Nat) (s:St) (W:World) (h:PW E b s W) (i:Bool) (hk:rkind i s rwords=1) (t:Tok) (r:List Tok) (hr:s.rest=t::r) (he:s.err=0) (hit:s.items≠600) (n:Bytes) (s1:St) (u2:Unit) (s2:St) (h1:name ⟨r,s.items+1,0⟩=(n,s1)) (h2:expect [[59]] s1=(u2,s2)):
  Calls Tryd.prog 28 #[.pointer (some ⟨b,0,none⟩),.bool i] W fun e w'=>(∃sc sd sn,e= .returned (.agg (icells {flat0 with kind:=1,pos:=t.pos,name:=n} sc sd sn nil).toArray)∧FlatOK W.heap.size {flat0 with kind:=1,pos:=t.pos,name:=n} sc sd sn w')∧After E b s2 W w':=by
 have H1:=hdd h1;clear h1
 have H2:=hdd h2;clear h2
 have hbl:=h.2.2.1
 have hln:=h.1
 have HP:=hdd h;have HK:=hdd hk;have HR0:=hdd hr;have HE0:=hdd he
 have d6: ¬(600:Int)≤(s.items:Int):=by have:=h.2.1;omega
 clear h hk hr he hit
 go_enter Tryd.func28,Tryd.ntmps28
 go_wp2_with fail
 refine (jv1 E b s _ ((After.start HP.o).alloc _).1 i).mono ?_
 rw [HK.o]
 rintro e w1 ⟨rfl,hA⟩
 have HR1:Hid (IB W.heap.size flat0 nil nil nil nil w1):=hA.2.blk (jq5 (by simp)) (by omega)
 have HA1:=hdd (((After.start HP.o).alloc _).trans hA)
 have hs1:W.heap.size<w1.heap.size:=jq7 HR1.o
 clear hA
 obtain ⟨g,HG⟩: ∃q,Hid (w1.heap.size=q):=⟨_,rfl⟩
 obtain ⟨w2,hw2⟩: ∃u,w1.alloc (.cells (icells {flat0 with kind:=1} nil nil nil nil).toArray 57)=u:=⟨_,rfl⟩
 have HI2:Hid (IB g {flat0 with kind:=1} nil nil nil nil w2):=by rw [←hw2];exact jq5 HG.o.symm
 have HA2:Hid (After E b s W w2):=by rw [←hw2];exact HA1.o.alloc _
 have HR2:Hid (IB W.heap.size flat0 nil nil nil nil w2):=by rw [←hw2];exact jq9 HR1.o _
 have hgW:W.heap.size<g:=by have:=HG.o;omega
 have HW2:=hdd hw2
 clear hw2 HA1 HR1
 go_upto_region 2 with (first|(refine wpList_build rfl 57 _ rfl #[(0,.int .i64 ((1:Nat):Int))] ?_ _ (jz6 1 _) ?_;(simp [Act.eval]))|(refine jq4 rfl 57 _ _ rfl rfl (icells {flat0 with kind:=1} nil nil nil nil).toArray rfl (jq6 _ _ _ _ _) (ic1 ..) (by rfl) ?_))
 rw [HW2.o,HG.o]
 clear HW2
 have k0:w2.cell? ⟨g,0,none⟩=some (.int .i64 1):=jq0 HI2.o 0
 go_upto_region 5 with fail
 clear k0
 obtain ⟨_,hit,hb2,hpt,n0,h1',h2',hblk⟩:=id HA2.o.1
 have hd:t::r=E.ts.drop n0:=by rw [←HR0.o];exact h2'
 obtain ⟨hn,hti,hr2⟩:=jz2 hd
 obtain ⟨gt,ot,hAd,hgt,hct⟩:=hpt.2 (by omega)
 obtain ⟨_,_,_,q3⟩:=hct n0 hn
 rw [hti] at q3
 have c0:w2.cell? ⟨b,0,none⟩=some (.slice (some ⟨gt,ot,none⟩) E.ts.length E.cap):=by rw [←hAd];exact jq0 hblk 0
 have c1:w2.cell? ⟨b,1,none⟩=some (.int .i64 (n0:Int)):=jq0 hblk 1
 have x2:w2.cell? ⟨g,2,none⟩=some (.int .i64 0):=jq0 HI2.o 2
 have y2:w2.frozen? ⟨g,2,none⟩=false:=jq1 HI2.o 2
 have i1:(0:Int)≤(n0:Int):=Int.natCast_nonneg _
 have i2:(n0:Int)<(E.ts.length:Int):=by omega
 have hbg:b≠g:=by omega
 have htg:gt≠g:=by omega
 have g0:(w2.setCell ⟨g,2,none⟩ (.int .i64 (t.pos:Int))).drew.cell? ⟨b,0,none⟩=some (.slice (some ⟨gt,ot,none⟩) E.ts.length E.cap):=by
  show (w2.setCell ⟨g,2,none⟩ (.int .i64 (t.pos:Int))).cell? ⟨b,0,none⟩=_
  exact (jz0 hbg).trans c0
 have g1:(w2.setCell ⟨g,2,none⟩ (.int .i64 (t.pos:Int))).drew.cell? ⟨b,1,none⟩=some (.int .i64 (n0:Int)):=by
  show (w2.setCell ⟨g,2,none⟩ (.int .i64 (t.pos:Int))).cell? ⟨b,1,none⟩=_
  exact (jz0 hbg).trans c1
 have g3:(w2.setCell ⟨g,2,none⟩ (.int .i64 (t.pos:Int))).drew.cell? ⟨gt,ot+n0*4+3,none⟩=some (.int .i64 (t.pos:Int)):=by
  show (w2.setCell ⟨g,2,none⟩ (.int .i64 (t.pos:Int))).cell? ⟨gt,ot+n0*4+3,none⟩=_
  exact (jz0 htg).trans q3
 have HBLK:=hdd hblk;have HPT:=hdd hpt;have HRR:=hdd hr2
 clear hblk hpt hr2 hd hti hct h2' hAd
 go_region_held3 (fun w'=>w'.cell? ⟨b,0,none⟩=some (.slice (some ⟨gt,ot,none⟩) E.ts.length E.cap)∧w'.cell? ⟨b,1,none⟩=some (.int .i64 (n0:Int))∧w'.cell? ⟨gt,ot+n0*4+3,none⟩=some (.int .i64 (t.pos:Int))) (first|go_keep|(go_split_ands;refine ⟨?_,?_,?_⟩<;>first|assumption|exact c0|exact c1|exact q3|exact g0|exact g1|exact g3)) (fail)
 clear c0 c1 x2 y2 g0 g1 g3 q3
 obtain ⟨w3,hw3⟩: ∃u,(w2.setCell ⟨g,2,none⟩ (.int .i64 (t.pos:Int))).drewN 1=u:=⟨_,rfl⟩
 have HI3:Hid (IB g {flat0 with kind:=1,pos:=t.pos} nil nil nil nil w3):=by rw [←hw3];exact jx2 (IB.set_pos HI2.o t.pos) 1
 have HR3:Hid (IB W.heap.size flat0 nil nil nil nil w3):=by rw [←hw3];exact jx2 (jq2 HR2.o (by omega) _) 1
 have HB3:Hid (w3.heap[b]?=some (.cells (pcells E n0 s) 71 (0,0))):=by rw [←hw3];exact jx2 (jq2 HBLK.o (by omega) _) 1
 have HF3:Hid (Fr (fun k=>k=b) W w3):=by rw [←hw3];exact (HA2.o.2.setCell (p:=⟨g,2,none⟩) (.inr (by show W.heap.size≤g;omega)) _).drewN 1
 have HW3:Hid ((w2.setCell ⟨g,2,none⟩ (.int .i64 (t.pos:Int))).drew=w3):=hw3
 clear hw3 HI2 HR2 HBLK
 rw [HW3.o]
 clear HW3
 have c1:w3.cell? ⟨b,1,none⟩=some (.int .i64 (n0:Int)):=jq0 HB3.o 1
 have f1:w3.frozen? ⟨b,1,none⟩=false:=jq1 HB3.o 1
 have c3:w3.cell? ⟨b,3,none⟩=some (.int .i64 (s.items:Int)):=jq0 HB3.o 3
 have f3:w3.frozen? ⟨b,3,none⟩=false:=jq1 HB3.o 3
 have w6:IntKind.i64.wrap ((s.items:Int)+1)=(s.items:Int)+1:=IntWalk.i64_in _ (by omega)
 have w7:IntKind.i64.wrap ((n0:Int)+1)=(n0:Int)+1:=IntWalk.i64_in _ (by omega)
 go_upto_region 12 with fail
 obtain ⟨w4,hw4⟩: ∃u,(w3.setCell ⟨b,3,none⟩ (.int .i64 ((s.items:Int)+1))).setCell ⟨b,1,none⟩ (.int .i64 ((n0:Int)+1))=u:=⟨_,rfl⟩
 have HF4:Hid (Fr (fun k=>k=b) W w4):=by rw [←hw4];exact (HF3.o.setb 3 _).setb 1 _
 have HI:Hid (IB g {flat0 with kind:=1,pos:=t.pos} nil nil nil nil w4):=by rw [←hw4];exact jq2 (jq2 HI3.o (by omega) _) (by omega) _
 have HR:Hid (IB W.heap.size flat0 nil nil nil nil w4):=by rw [←hw4];exact jq2 (jq2 HR3.o (by omega) _) (by omega) _
 have HA:Hid (After E b ⟨r,s.items+1,0⟩ W w4):=by
  have hbk:=jv8 HB3.o HE0.o
  rw [hw4,HR0.o] at hbk
  exact ⟨mod_PW HP.o HF4.o (by show s.items+1≤600;omega) (by omega) HRR.o hbk,HF4.o⟩
 rw [hw4]
 clear hw4 HF4 HI3 HR3 HB3 HF3 HA2 c1 f1 c3 f3 w6 w7 HPT HRR
 have k_0:w4.cell? ⟨g,0,none⟩=some (.int .i64 1):=jq0 HI.o 0
 have f_0:w4.frozen? ⟨g,0,none⟩=false:=jq1 HI.o 0
 go_wp2_with fail
 refine (name_any E b ⟨r,s.items+1,0⟩ _ HA.o.1).mono ?_
 rw [H1.o]
 rintro e w5 ⟨rfl,hA⟩
 have GI:Hid (IB g {flat0 with kind:=1,pos:=t.pos} nil nil nil nil w5):=hA.2.blk HI.o (by omega)
 have GR:Hid (IB W.heap.size flat0 nil nil nil nil w5):=hA.2.blk HR.o (by omega)
 have GA:=hdd (HA.o.trans hA)
 clear hA
 try clear k_0 f_0
 clear HI HR HA
 revert GI GR GA;intro HI HR HA
 have k_0:w5.cell? ⟨g,0,none⟩=some (.int .i64 1):=jq0 HI.o 0
 have f_0:w5.frozen? ⟨g,0,none⟩=false:=jq1 HI.o 0
 have k_1:w5.cell? ⟨g,1,none⟩=some (.string ⟨#[]⟩):=jq0 HI.o 1
 have f_1:w5.frozen? ⟨g,1,none⟩=false:=jq1 HI.o 1
 go_wp2_with fail
 refine (jx3 E b s1 [59] _ (HA.o.set (i:=1) (by omega) (by omega) (.string ⟨n.toArray⟩)).1 (nd_of (by decide))).mono ?_
 rw [H2.o]
 rintro e w6 ⟨rfl,hA⟩
 have GI:Hid (IB g {flat0 with kind:=1,pos:=t.pos,name:=n} nil nil nil nil w6):=hA.2.blk (IB.set_name HI.o n) (by omega)
 have GR:Hid (IB W.heap.size flat0 nil nil nil nil w6):=hA.2.blk (jq2 HR.o (by omega) _) (by omega)
 have GA:=hdd ((HA.o.set (i:=1) (by omega) (by omega) (.string ⟨n.toArray⟩)).trans hA)
 clear hA
 try clear k_0 f_0 k_1 f_1
 clear HI HR HA
 revert GI GR GA;intro HI HR HA
 obtain ⟨w99,hw99,hA99,hl99,ho99⟩:=item_end (g:=flat0) (a1:=nil) (a2:=nil) (a3:=nil) (a4:=nil) HR.o HA.o hbl {flat0 with kind:=1,pos:=t.pos,name:=n} nil nil nil nil
 have HW99:=hdd hw99;clear hw99
 have HA99:=hdd hA99;clear hA99
 have HL99:=hdd hl99;clear hl99 ho99
 have HI9:Hid (IB g {flat0 with kind:=1,pos:=t.pos,name:=n} nil nil nil nil _):=HI.o
 have HR9:Hid (IB W.heap.size flat0 nil nil nil nil _):=HR.o
 go_wp2_with (first|(refine wpList_load_mid rfl 57 _ rfl g 0 rfl (icells {flat0 with kind:=1,pos:=t.pos,name:=n} nil nil nil nil) _ HI9.o.range Tryd.underlying57 rfl (jx6 _ _ _ _ _) ?_)|(refine wpList_store_mid rfl 57 _ _ rfl W.heap.size 0 (icells {flat0 with kind:=1,pos:=t.pos,name:=n} nil nil nil nil).toArray rfl rfl (HR9.o.there' _ _ _ _ _) (jq6 _ _ _ _ _) (ic1 ..) ?_;rw [HW99.o]))
 exact bodyPost_ret (v:= .agg (icells {flat0 with kind:=1,pos:=t.pos,name:=n} nil nil nil nil).toArray) (jq8 Tryd.results28 rfl HL99.o) rfl ⟨⟨nil,nil,nil,rfl,FlatOK.nil _ _ _ rfl rfl rfl⟩,HA99.o⟩
theorem item_p2 (E:Env) (b:Nat) (s:St) (W:World) (h:PW E b s W) (i:Bool) (hk:rkind i s rwords=2) (t:Tok) (r:List Tok) (hr:s.rest=t::r) (he:s.err=0) (hit:s.items≠600) (n:Bytes) (s1:St) (u2:Unit) (s2:St) (o:Bytes) (s3:St) (u4:Unit) (s4:St) (h1:name ⟨r,s.items+1,0⟩=(n,s1)) (h2:expect [[111,102]] s1=(u2,s2)) (h3:name s2=(o,s3)) (h4:expect [[59]] s3=(u4,s4)):
  Calls Tryd.prog 28 #[.pointer (some ⟨b,0,none⟩),.bool i] W fun e w'=>(∃sc sd sn,e= .returned (.agg (icells {flat0 with kind:=2,pos:=t.pos,name:=n,of_:=o} sc sd sn nil).toArray)∧FlatOK W.heap.size {flat0 with kind:=2,pos:=t.pos,name:=n,of_:=o} sc sd sn w')∧After E b s4 W w':=by
 have H1:=hdd h1;clear h1
 have H2:=hdd h2;clear h2
 have H3:=hdd h3;clear h3
 have H4:=hdd h4;clear h4
 have hbl:=h.2.2.1
 have hln:=h.1
 have HP:=hdd h;have HK:=hdd hk;have HR0:=hdd hr;have HE0:=hdd he
 have d6: ¬(600:Int)≤(s.items:Int):=by have:=h.2.1;omega
 clear h hk hr he hit
 go_enter Tryd.func28,Tryd.ntmps28
 go_wp2_with fail
 refine (jv1 E b s _ ((After.start HP.o).alloc _).1 i).mono ?_
 rw [HK.o]
 rintro e w1 ⟨rfl,hA⟩
 have HR1:Hid (IB W.heap.size flat0 nil nil nil nil w1):=hA.2.blk (jq5 (by simp)) (by omega)
 have HA1:=hdd (((After.start HP.o).alloc _).trans hA)
 have hs1:W.heap.size<w1.heap.size:=jq7 HR1.o
 clear hA
 obtain ⟨g,HG⟩: ∃q,Hid (w1.heap.size=q):=⟨_,rfl⟩
 obtain ⟨w2,hw2⟩: ∃u,w1.alloc (.cells (icells {flat0 with kind:=2} nil nil nil nil).toArray 57)=u:=⟨_,rfl⟩
 have HI2:Hid (IB g {flat0 with kind:=2} nil nil nil nil w2):=by rw [←hw2];exact jq5 HG.o.symm
 have HA2:Hid (After E b s W w2):=by rw [←hw2];exact HA1.o.alloc _
 have HR2:Hid (IB W.heap.size flat0 nil nil nil nil w2):=by rw [←hw2];exact jq9 HR1.o _
 have hgW:W.heap.size<g:=by have:=HG.o;omega
 have HW2:=hdd hw2
 clear hw2 HA1 HR1
 go_upto_region 2 with (first|(refine wpList_build rfl 57 _ rfl #[(0,.int .i64 ((2:Nat):Int))] ?_ _ (jz6 2 _) ?_;(simp [Act.eval]))|(refine jq4 rfl 57 _ _ rfl rfl (icells {flat0 with kind:=2} nil nil nil nil).toArray rfl (jq6 _ _ _ _ _) (ic1 ..) (by rfl) ?_))
 rw [HW2.o,HG.o]
 clear HW2
 have k0:w2.cell? ⟨g,0,none⟩=some (.int .i64 2):=jq0 HI2.o 0
 go_upto_region 5 with fail
 clear k0
 obtain ⟨_,hit,hb2,hpt,n0,h1',h2',hblk⟩:=id HA2.o.1
 have hd:t::r=E.ts.drop n0:=by rw [←HR0.o];exact h2'
 obtain ⟨hn,hti,hr2⟩:=jz2 hd
 obtain ⟨gt,ot,hAd,hgt,hct⟩:=hpt.2 (by omega)
 obtain ⟨_,_,_,q3⟩:=hct n0 hn
 rw [hti] at q3
 have c0:w2.cell? ⟨b,0,none⟩=some (.slice (some ⟨gt,ot,none⟩) E.ts.length E.cap):=by rw [←hAd];exact jq0 hblk 0
 have c1:w2.cell? ⟨b,1,none⟩=some (.int .i64 (n0:Int)):=jq0 hblk 1
 have x2:w2.cell? ⟨g,2,none⟩=some (.int .i64 0):=jq0 HI2.o 2
 have y2:w2.frozen? ⟨g,2,none⟩=false:=jq1 HI2.o 2
 have i1:(0:Int)≤(n0:Int):=Int.natCast_nonneg _
 have i2:(n0:Int)<(E.ts.length:Int):=by omega
 have hbg:b≠g:=by omega
 have htg:gt≠g:=by omega
 have g0:(w2.setCell ⟨g,2,none⟩ (.int .i64 (t.pos:Int))).drew.cell? ⟨b,0,none⟩=some (.slice (some ⟨gt,ot,none⟩) E.ts.length E.cap):=by
  show (w2.setCell ⟨g,2,none⟩ (.int .i64 (t.pos:Int))).cell? ⟨b,0,none⟩=_
  exact (jz0 hbg).trans c0
 have g1:(w2.setCell ⟨g,2,none⟩ (.int .i64 (t.pos:Int))).drew.cell? ⟨b,1,none⟩=some (.int .i64 (n0:Int)):=by
  show (w2.setCell ⟨g,2,none⟩ (.int .i64 (t.pos:Int))).cell? ⟨b,1,none⟩=_
  exact (jz0 hbg).trans c1
 have g3:(w2.setCell ⟨g,2,none⟩ (.int .i64 (t.pos:Int))).drew.cell? ⟨gt,ot+n0*4+3,none⟩=some (.int .i64 (t.pos:Int)):=by
  show (w2.setCell ⟨g,2,none⟩ (.int .i64 (t.pos:Int))).cell? ⟨gt,ot+n0*4+3,none⟩=_
  exact (jz0 htg).trans q3
 have HBLK:=hdd hblk;have HPT:=hdd hpt;have HRR:=hdd hr2
 clear hblk hpt hr2 hd hti hct h2' hAd
 go_region_held3 (fun w'=>w'.cell? ⟨b,0,none⟩=some (.slice (some ⟨gt,ot,none⟩) E.ts.length E.cap)∧w'.cell? ⟨b,1,none⟩=some (.int .i64 (n0:Int))∧w'.cell? ⟨gt,ot+n0*4+3,none⟩=some (.int .i64 (t.pos:Int))) (first|go_keep|(go_split_ands;refine ⟨?_,?_,?_⟩<;>first|assumption|exact c0|exact c1|exact q3|exact g0|exact g1|exact g3)) (fail)
 clear c0 c1 x2 y2 g0 g1 g3 q3
 obtain ⟨w3,hw3⟩: ∃u,(w2.setCell ⟨g,2,none⟩ (.int .i64 (t.pos:Int))).drewN 1=u:=⟨_,rfl⟩
 have HI3:Hid (IB g {flat0 with kind:=2,pos:=t.pos} nil nil nil nil w3):=by rw [←hw3];exact jx2 (IB.set_pos HI2.o t.pos) 1
 have HR3:Hid (IB W.heap.size flat0 nil nil nil nil w3):=by rw [←hw3];exact jx2 (jq2 HR2.o (by omega) _) 1
 have HB3:Hid (w3.heap[b]?=some (.cells (pcells E n0 s) 71 (0,0))):=by rw [←hw3];exact jx2 (jq2 HBLK.o (by omega) _) 1
 have HF3:Hid (Fr (fun k=>k=b) W w3):=by rw [←hw3];exact (HA2.o.2.setCell (p:=⟨g,2,none⟩) (.inr (by show W.heap.size≤g;omega)) _).drewN 1
 have HW3:Hid ((w2.setCell ⟨g,2,none⟩ (.int .i64 (t.pos:Int))).drew=w3):=hw3
 clear hw3 HI2 HR2 HBLK
 rw [HW3.o]
 clear HW3
 have c1:w3.cell? ⟨b,1,none⟩=some (.int .i64 (n0:Int)):=jq0 HB3.o 1
 have f1:w3.frozen? ⟨b,1,none⟩=false:=jq1 HB3.o 1
 have c3:w3.cell? ⟨b,3,none⟩=some (.int .i64 (s.items:Int)):=jq0 HB3.o 3
 have f3:w3.frozen? ⟨b,3,none⟩=false:=jq1 HB3.o 3
 have w6:IntKind.i64.wrap ((s.items:Int)+1)=(s.items:Int)+1:=IntWalk.i64_in _ (by omega)
 have w7:IntKind.i64.wrap ((n0:Int)+1)=(n0:Int)+1:=IntWalk.i64_in _ (by omega)
 go_upto_region 12 with fail
 obtain ⟨w4,hw4⟩: ∃u,(w3.setCell ⟨b,3,none⟩ (.int .i64 ((s.items:Int)+1))).setCell ⟨b,1,none⟩ (.int .i64 ((n0:Int)+1))=u:=⟨_,rfl⟩
 have HF4:Hid (Fr (fun k=>k=b) W w4):=by rw [←hw4];exact (HF3.o.setb 3 _).setb 1 _
 have HI:Hid (IB g {flat0 with kind:=2,pos:=t.pos} nil nil nil nil w4):=by rw [←hw4];exact jq2 (jq2 HI3.o (by omega) _) (by omega) _
 have HR:Hid (IB W.heap.size flat0 nil nil nil nil w4):=by rw [←hw4];exact jq2 (jq2 HR3.o (by omega) _) (by omega) _
 have HA:Hid (After E b ⟨r,s.items+1,0⟩ W w4):=by
  have hbk:=jv8 HB3.o HE0.o
  rw [hw4,HR0.o] at hbk
  exact ⟨mod_PW HP.o HF4.o (by show s.items+1≤600;omega) (by omega) HRR.o hbk,HF4.o⟩
 rw [hw4]
 clear hw4 HF4 HI3 HR3 HB3 HF3 HA2 c1 f1 c3 f3 w6 w7 HPT HRR
 have k_0:w4.cell? ⟨g,0,none⟩=some (.int .i64 2):=jq0 HI.o 0
 have f_0:w4.frozen? ⟨g,0,none⟩=false:=jq1 HI.o 0
 go_wp2_with fail
 refine (name_any E b ⟨r,s.items+1,0⟩ _ HA.o.1).mono ?_
 rw [H1.o]
 rintro e w5 ⟨rfl,hA⟩
 have GI:Hid (IB g {flat0 with kind:=2,pos:=t.pos} nil nil nil nil w5):=hA.2.blk HI.o (by omega)
 have GR:Hid (IB W.heap.size flat0 nil nil nil nil w5):=hA.2.blk HR.o (by omega)
 have GA:=hdd (HA.o.trans hA)
 clear hA
 try clear k_0 f_0
 clear HI HR HA
 revert GI GR GA;intro HI HR HA
 have k_0:w5.cell? ⟨g,0,none⟩=some (.int .i64 2):=jq0 HI.o 0
 have f_0:w5.frozen? ⟨g,0,none⟩=false:=jq1 HI.o 0
 have k_1:w5.cell? ⟨g,1,none⟩=some (.string ⟨#[]⟩):=jq0 HI.o 1
 have f_1:w5.frozen? ⟨g,1,none⟩=false:=jq1 HI.o 1
 go_wp2_with fail
 refine (jx3 E b s1 [111,102] _ (HA.o.set (i:=1) (by omega) (by omega) (.string ⟨n.toArray⟩)).1 (nd_of (by decide))).mono ?_
 rw [H2.o]
 rintro e w6 ⟨rfl,hA⟩
 have GI:Hid (IB g {flat0 with kind:=2,pos:=t.pos,name:=n} nil nil nil nil w6):=hA.2.blk (IB.set_name HI.o n) (by omega)
 have GR:Hid (IB W.heap.size flat0 nil nil nil nil w6):=hA.2.blk (jq2 HR.o (by omega) _) (by omega)
 have GA:=hdd ((HA.o.set (i:=1) (by omega) (by omega) (.string ⟨n.toArray⟩)).trans hA)
 clear hA
 try clear k_0 f_0 k_1 f_1
 clear HI HR HA
 revert GI GR GA;intro HI HR HA
 go_wp2_with fail
 refine (name_any E b s2 _ HA.o.1).mono ?_
 rw [H3.o]
 rintro e w7 ⟨rfl,hA⟩
 have GI:Hid (IB g {flat0 with kind:=2,pos:=t.pos,name:=n} nil nil nil nil w7):=hA.2.blk HI.o (by omega)
 have GR:Hid (IB W.heap.size flat0 nil nil nil nil w7):=hA.2.blk HR.o (by omega)
 have GA:=hdd (HA.o.trans hA)
 clear hA
 clear HI HR HA
 revert GI GR GA;intro HI HR HA
 have k_3:w7.cell? ⟨g,3,none⟩=some (.string ⟨#[]⟩):=jq0 HI.o 3
 have f_3:w7.frozen? ⟨g,3,none⟩=false:=jq1 HI.o 3
 go_wp2_with fail
 refine (jx3 E b s3 [59] _ (HA.o.set (i:=3) (by omega) (by omega) (.string ⟨o.toArray⟩)).1 (nd_of (by decide))).mono ?_
 rw [H4.o]
 rintro e w8 ⟨rfl,hA⟩
 have GI:Hid (IB g {flat0 with kind:=2,pos:=t.pos,name:=n,of_:=o} nil nil nil nil w8):=hA.2.blk (IB.set_of_ HI.o o) (by omega)
 have GR:Hid (IB W.heap.size flat0 nil nil nil nil w8):=hA.2.blk (jq2 HR.o (by omega) _) (by omega)
 have GA:=hdd ((HA.o.set (i:=3) (by omega) (by omega) (.string ⟨o.toArray⟩)).trans hA)
 clear hA
 try clear k_3 f_3
 clear HI HR HA
 revert GI GR GA;intro HI HR HA
 obtain ⟨w99,hw99,hA99,hl99,ho99⟩:=item_end (g:=flat0) (a1:=nil) (a2:=nil) (a3:=nil) (a4:=nil) HR.o HA.o hbl {flat0 with kind:=2,pos:=t.pos,name:=n,of_:=o} nil nil nil nil
 have HW99:=hdd hw99;clear hw99
 have HA99:=hdd hA99;clear hA99
 have HL99:=hdd hl99;clear hl99 ho99
 have HI9:Hid (IB g {flat0 with kind:=2,pos:=t.pos,name:=n,of_:=o} nil nil nil nil _):=HI.o
 have HR9:Hid (IB W.heap.size flat0 nil nil nil nil _):=HR.o
 go_wp2_with (first|(refine wpList_load_mid rfl 57 _ rfl g 0 rfl (icells {flat0 with kind:=2,pos:=t.pos,name:=n,of_:=o} nil nil nil nil) _ HI9.o.range Tryd.underlying57 rfl (jx6 _ _ _ _ _) ?_)|(refine wpList_store_mid rfl 57 _ _ rfl W.heap.size 0 (icells {flat0 with kind:=2,pos:=t.pos,name:=n,of_:=o} nil nil nil nil).toArray rfl rfl (HR9.o.there' _ _ _ _ _) (jq6 _ _ _ _ _) (ic1 ..) ?_;rw [HW99.o]))
 exact bodyPost_ret (v:= .agg (icells {flat0 with kind:=2,pos:=t.pos,name:=n,of_:=o} nil nil nil nil).toArray) (jq8 Tryd.results28 rfl HL99.o) rfl ⟨⟨nil,nil,nil,rfl,FlatOK.nil _ _ _ rfl rfl rfl⟩,HA99.o⟩
theorem item_p3 (E:Env) (b:Nat) (s:St) (W:World) (h:PW E b s W) (i:Bool) (hk:rkind i s rwords=3) (t:Tok) (r:List Tok) (hr:s.rest=t::r) (he:s.err=0) (hit:s.items≠600) (n:Bytes) (s1:St) (V:Flat) (s2:St) (h1:name ⟨r,s.items+1,0⟩=(n,s1)) (h2:unitR n s1=(V,s2)) (hVc:V.conds= []) (hVd:V.dates= []) (hVn:V.names= []):
  Calls Tryd.prog 28 #[.pointer (some ⟨b,0,none⟩),.bool i] W fun e w'=>(∃sc sd sn,e= .returned (.agg (icells {V with pos:=t.pos} sc sd sn nil).toArray)∧FlatOK W.heap.size {V with pos:=t.pos} sc sd sn w')∧After E b s2 W w':=by
 have H1:=hdd h1;clear h1
 have H2:=hdd h2;clear h2
 have hbl:=h.2.2.1
 have hln:=h.1
 have HP:=hdd h;have HK:=hdd hk;have HR0:=hdd hr;have HE0:=hdd he
 have d6: ¬(600:Int)≤(s.items:Int):=by have:=h.2.1;omega
 clear h hk hr he hit
 go_enter Tryd.func28,Tryd.ntmps28
 go_wp2_with fail
 refine (jv1 E b s _ ((After.start HP.o).alloc _).1 i).mono ?_
 rw [HK.o]
 rintro e w1 ⟨rfl,hA⟩
 have HR1:Hid (IB W.heap.size flat0 nil nil nil nil w1):=hA.2.blk (jq5 (by simp)) (by omega)
 have HA1:=hdd (((After.start HP.o).alloc _).trans hA)
 have hs1:W.heap.size<w1.heap.size:=jq7 HR1.o
 clear hA
 obtain ⟨g,HG⟩: ∃q,Hid (w1.heap.size=q):=⟨_,rfl⟩
 obtain ⟨w2,hw2⟩: ∃u,w1.alloc (.cells (icells {flat0 with kind:=3} nil nil nil nil).toArray 57)=u:=⟨_,rfl⟩
 have HI2:Hid (IB g {flat0 with kind:=3} nil nil nil nil w2):=by rw [←hw2];exact jq5 HG.o.symm
 have HA2:Hid (After E b s W w2):=by rw [←hw2];exact HA1.o.alloc _
 have HR2:Hid (IB W.heap.size flat0 nil nil nil nil w2):=by rw [←hw2];exact jq9 HR1.o _
 have hgW:W.heap.size<g:=by have:=HG.o;omega
 have HW2:=hdd hw2
 clear hw2 HA1 HR1
 go_upto_region 2 with (first|(refine wpList_build rfl 57 _ rfl #[(0,.int .i64 ((3:Nat):Int))] ?_ _ (jz6 3 _) ?_;(simp [Act.eval]))|(refine jq4 rfl 57 _ _ rfl rfl (icells {flat0 with kind:=3} nil nil nil nil).toArray rfl (jq6 _ _ _ _ _) (ic1 ..) (by rfl) ?_))
 rw [HW2.o,HG.o]
 clear HW2
 have k0:w2.cell? ⟨g,0,none⟩=some (.int .i64 3):=jq0 HI2.o 0
 go_upto_region 5 with fail
 clear k0
 obtain ⟨_,hit,hb2,hpt,n0,h1',h2',hblk⟩:=id HA2.o.1
 have hd:t::r=E.ts.drop n0:=by rw [←HR0.o];exact h2'
 obtain ⟨hn,hti,hr2⟩:=jz2 hd
 obtain ⟨gt,ot,hAd,hgt,hct⟩:=hpt.2 (by omega)
 obtain ⟨_,_,_,q3⟩:=hct n0 hn
 rw [hti] at q3
 have c0:w2.cell? ⟨b,0,none⟩=some (.slice (some ⟨gt,ot,none⟩) E.ts.length E.cap):=by rw [←hAd];exact jq0 hblk 0
 have c1:w2.cell? ⟨b,1,none⟩=some (.int .i64 (n0:Int)):=jq0 hblk 1
 have x2:w2.cell? ⟨g,2,none⟩=some (.int .i64 0):=jq0 HI2.o 2
 have y2:w2.frozen? ⟨g,2,none⟩=false:=jq1 HI2.o 2
 have i1:(0:Int)≤(n0:Int):=Int.natCast_nonneg _
 have i2:(n0:Int)<(E.ts.length:Int):=by omega
 have hbg:b≠g:=by omega
 have htg:gt≠g:=by omega
 have g0:(w2.setCell ⟨g,2,none⟩ (.int .i64 (t.pos:Int))).drew.cell? ⟨b,0,none⟩=some (.slice (some ⟨gt,ot,none⟩) E.ts.length E.cap):=by
  show (w2.setCell ⟨g,2,none⟩ (.int .i64 (t.pos:Int))).cell? ⟨b,0,none⟩=_
  exact (jz0 hbg).trans c0
 have g1:(w2.setCell ⟨g,2,none⟩ (.int .i64 (t.pos:Int))).drew.cell? ⟨b,1,none⟩=some (.int .i64 (n0:Int)):=by
  show (w2.setCell ⟨g,2,none⟩ (.int .i64 (t.pos:Int))).cell? ⟨b,1,none⟩=_
  exact (jz0 hbg).trans c1
 have g3:(w2.setCell ⟨g,2,none⟩ (.int .i64 (t.pos:Int))).drew.cell? ⟨gt,ot+n0*4+3,none⟩=some (.int .i64 (t.pos:Int)):=by
  show (w2.setCell ⟨g,2,none⟩ (.int .i64 (t.pos:Int))).cell? ⟨gt,ot+n0*4+3,none⟩=_
  exact (jz0 htg).trans q3
 have HBLK:=hdd hblk;have HPT:=hdd hpt;have HRR:=hdd hr2
 clear hblk hpt hr2 hd hti hct h2' hAd
 go_region_held3 (fun w'=>w'.cell? ⟨b,0,none⟩=some (.slice (some ⟨gt,ot,none⟩) E.ts.length E.cap)∧w'.cell? ⟨b,1,none⟩=some (.int .i64 (n0:Int))∧w'.cell? ⟨gt,ot+n0*4+3,none⟩=some (.int .i64 (t.pos:Int))) (first|go_keep|(go_split_ands;refine ⟨?_,?_,?_⟩<;>first|assumption|exact c0|exact c1|exact q3|exact g0|exact g1|exact g3)) (fail)
 clear c0 c1 x2 y2 g0 g1 g3 q3
 obtain ⟨w3,hw3⟩: ∃u,(w2.setCell ⟨g,2,none⟩ (.int .i64 (t.pos:Int))).drewN 1=u:=⟨_,rfl⟩
 have HI3:Hid (IB g {flat0 with kind:=3,pos:=t.pos} nil nil nil nil w3):=by rw [←hw3];exact jx2 (IB.set_pos HI2.o t.pos) 1
 have HR3:Hid (IB W.heap.size flat0 nil nil nil nil w3):=by rw [←hw3];exact jx2 (jq2 HR2.o (by omega) _) 1
 have HB3:Hid (w3.heap[b]?=some (.cells (pcells E n0 s) 71 (0,0))):=by rw [←hw3];exact jx2 (jq2 HBLK.o (by omega) _) 1
 have HF3:Hid (Fr (fun k=>k=b) W w3):=by rw [←hw3];exact (HA2.o.2.setCell (p:=⟨g,2,none⟩) (.inr (by show W.heap.size≤g;omega)) _).drewN 1
 have HW3:Hid ((w2.setCell ⟨g,2,none⟩ (.int .i64 (t.pos:Int))).drew=w3):=hw3
 clear hw3 HI2 HR2 HBLK
 rw [HW3.o]
 clear HW3
 have c1:w3.cell? ⟨b,1,none⟩=some (.int .i64 (n0:Int)):=jq0 HB3.o 1
 have f1:w3.frozen? ⟨b,1,none⟩=false:=jq1 HB3.o 1
 have c3:w3.cell? ⟨b,3,none⟩=some (.int .i64 (s.items:Int)):=jq0 HB3.o 3
 have f3:w3.frozen? ⟨b,3,none⟩=false:=jq1 HB3.o 3
 have w6:IntKind.i64.wrap ((s.items:Int)+1)=(s.items:Int)+1:=IntWalk.i64_in _ (by omega)
 have w7:IntKind.i64.wrap ((n0:Int)+1)=(n0:Int)+1:=IntWalk.i64_in _ (by omega)
 go_upto_region 12 with fail
 obtain ⟨w4,hw4⟩: ∃u,(w3.setCell ⟨b,3,none⟩ (.int .i64 ((s.items:Int)+1))).setCell ⟨b,1,none⟩ (.int .i64 ((n0:Int)+1))=u:=⟨_,rfl⟩
 have HF4:Hid (Fr (fun k=>k=b) W w4):=by rw [←hw4];exact (HF3.o.setb 3 _).setb 1 _
 have HI:Hid (IB g {flat0 with kind:=3,pos:=t.pos} nil nil nil nil w4):=by rw [←hw4];exact jq2 (jq2 HI3.o (by omega) _) (by omega) _
 have HR:Hid (IB W.heap.size flat0 nil nil nil nil w4):=by rw [←hw4];exact jq2 (jq2 HR3.o (by omega) _) (by omega) _
 have HA:Hid (After E b ⟨r,s.items+1,0⟩ W w4):=by
  have hbk:=jv8 HB3.o HE0.o
  rw [hw4,HR0.o] at hbk
  exact ⟨mod_PW HP.o HF4.o (by show s.items+1≤600;omega) (by omega) HRR.o hbk,HF4.o⟩
 rw [hw4]
 clear hw4 HF4 HI3 HR3 HB3 HF3 HA2 c1 f1 c3 f3 w6 w7 HPT HRR
 have k_0:w4.cell? ⟨g,0,none⟩=some (.int .i64 3):=jq0 HI.o 0
 have f_0:w4.frozen? ⟨g,0,none⟩=false:=jq1 HI.o 0
 go_wp2_with fail
 refine (name_any E b ⟨r,s.items+1,0⟩ _ HA.o.1).mono ?_
 rw [H1.o]
 rintro e w5 ⟨rfl,hA⟩
 have GI:Hid (IB g {flat0 with kind:=3,pos:=t.pos} nil nil nil nil w5):=hA.2.blk HI.o (by omega)
 have GR:Hid (IB W.heap.size flat0 nil nil nil nil w5):=hA.2.blk HR.o (by omega)
 have GA:=hdd (HA.o.trans hA)
 clear hA
 try clear k_0 f_0
 clear HI HR HA
 revert GI GR GA;intro HI HR HA
 have k_0:w5.cell? ⟨g,0,none⟩=some (.int .i64 3):=jq0 HI.o 0
 have f_0:w5.frozen? ⟨g,0,none⟩=false:=jq1 HI.o 0
 have k_1:w5.cell? ⟨g,1,none⟩=some (.string ⟨#[]⟩):=jq0 HI.o 1
 have f_1:w5.frozen? ⟨g,1,none⟩=false:=jq1 HI.o 1
 go_wp2_with fail
 refine (unit_any E b s1 _ (HA.o.set (i:=1) (by omega) (by omega) (.string ⟨n.toArray⟩)).1 g n t.pos (IB.set_name HI.o n) (by omega)).mono ?_
 rw [H2.o]
 rintro e w6 ⟨rfl,hI,hA⟩
 have GI:Hid (IB g {V with pos:=t.pos} nil nil nil nil w6):=hI
 have GR:Hid (IB W.heap.size flat0 nil nil nil nil w6):=hA.2.blk (jq2 HR.o (by omega) _) (by omega)
 have GA:=hdd ((HA.o.set (i:=1) (by omega) (by omega) (.string ⟨n.toArray⟩)).ptr hA (by omega))
 clear hA hI
 try clear k_0 f_0 k_1 f_1
 clear HI HR HA
 revert GI GR GA;intro HI HR HA
 obtain ⟨w99,hw99,hA99,hl99,ho99⟩:=item_end (g:=flat0) (a1:=nil) (a2:=nil) (a3:=nil) (a4:=nil) HR.o HA.o hbl {V with pos:=t.pos} nil nil nil nil
 have HW99:=hdd hw99;clear hw99
 have HA99:=hdd hA99;clear hA99
 have HL99:=hdd hl99;clear hl99 ho99
 have HI9:Hid (IB g {V with pos:=t.pos} nil nil nil nil _):=HI.o
 have HR9:Hid (IB W.heap.size flat0 nil nil nil nil _):=HR.o
 go_wp2_with (first|(refine wpList_load_mid rfl 57 _ rfl g 0 rfl (icells {V with pos:=t.pos} nil nil nil nil) _ HI9.o.range Tryd.underlying57 rfl (jx6 _ _ _ _ _) ?_)|(refine wpList_store_mid rfl 57 _ _ rfl W.heap.size 0 (icells {V with pos:=t.pos} nil nil nil nil).toArray rfl rfl (HR9.o.there' _ _ _ _ _) (jq6 _ _ _ _ _) (ic1 ..) ?_;rw [HW99.o]))
 exact bodyPost_ret (v:= .agg (icells {V with pos:=t.pos} nil nil nil nil).toArray) (jq8 Tryd.results28 rfl HL99.o) rfl ⟨⟨nil,nil,nil,rfl,FlatOK.nil _ _ _ hVc hVd hVn⟩,HA99.o⟩
theorem item_p6 (E:Env) (b:Nat) (s:St) (W:World) (h:PW E b s W) (i:Bool) (hk:rkind i s rwords=6) (t:Tok) (r:List Tok) (hr:s.rest=t::r) (he:s.err=0) (hit:s.items≠600) (n:Bytes) (s1:St) (u2:Unit) (s2:St) (k:Nat) (s3:St) (d:Span) (s4:St) (u5:Unit) (s5:St) (h1:name ⟨r,s.items+1,0⟩=(n,s1)) (h2:expect [[61]] s1=(u2,s2)) (h3:number s2=(k,s3)) (h4:rdays k s3=(d,s4)) (h5:expect [[59]] s4=(u5,s5)):
  Calls Tryd.prog 28 #[.pointer (some ⟨b,0,none⟩),.bool i] W fun e w'=>(∃sc sd sn,e= .returned (.agg (icells {flat0 with kind:=6,pos:=t.pos,name:=n,within:=d} sc sd sn nil).toArray)∧FlatOK W.heap.size {flat0 with kind:=6,pos:=t.pos,name:=n,within:=d} sc sd sn w')∧After E b s5 W w':=by
 have H1:=hdd h1;clear h1
 have H2:=hdd h2;clear h2
 have H3:=hdd h3;clear h3
 have H4:=hdd h4;clear h4
 have H5:=hdd h5;clear h5
 have hbl:=h.2.2.1
 have hln:=h.1
 have HP:=hdd h;have HK:=hdd hk;have HR0:=hdd hr;have HE0:=hdd he
 have d6: ¬(600:Int)≤(s.items:Int):=by have:=h.2.1;omega
 clear h hk hr he hit
 go_enter Tryd.func28,Tryd.ntmps28
 go_wp2_with fail
 refine (jv1 E b s _ ((After.start HP.o).alloc _).1 i).mono ?_
 rw [HK.o]
 rintro e w1 ⟨rfl,hA⟩
 have HR1:Hid (IB W.heap.size flat0 nil nil nil nil w1):=hA.2.blk (jq5 (by simp)) (by omega)
 have HA1:=hdd (((After.start HP.o).alloc _).trans hA)
 have hs1:W.heap.size<w1.heap.size:=jq7 HR1.o
 clear hA
 obtain ⟨g,HG⟩: ∃q,Hid (w1.heap.size=q):=⟨_,rfl⟩
 obtain ⟨w2,hw2⟩: ∃u,w1.alloc (.cells (icells {flat0 with kind:=6} nil nil nil nil).toArray 57)=u:=⟨_,rfl⟩
 have HI2:Hid (IB g {flat0 with kind:=6} nil nil nil nil w2):=by rw [←hw2];exact jq5 HG.o.symm
 have HA2:Hid (After E b s W w2):=by rw [←hw2];exact HA1.o.alloc _
 have HR2:Hid (IB W.heap.size flat0 nil nil nil nil w2):=by rw [←hw2];exact jq9 HR1.o _
 have hgW:W.heap.size<g:=by have:=HG.o;omega
 have HW2:=hdd hw2
 clear hw2 HA1 HR1
 go_upto_region 2 with (first|(refine wpList_build rfl 57 _ rfl #[(0,.int .i64 ((6:Nat):Int))] ?_ _ (jz6 6 _) ?_;(simp [Act.eval]))|(refine jq4 rfl 57 _ _ rfl rfl (icells {flat0 with kind:=6} nil nil nil nil).toArray rfl (jq6 _ _ _ _ _) (ic1 ..) (by rfl) ?_))
 rw [HW2.o,HG.o]
 clear HW2
 have k0:w2.cell? ⟨g,0,none⟩=some (.int .i64 6):=jq0 HI2.o 0
 go_upto_region 5 with fail
 clear k0
 obtain ⟨_,hit,hb2,hpt,n0,h1',h2',hblk⟩:=id HA2.o.1
 have hd:t::r=E.ts.drop n0:=by rw [←HR0.o];exact h2'
 obtain ⟨hn,hti,hr2⟩:=jz2 hd
 obtain ⟨gt,ot,hAd,hgt,hct⟩:=hpt.2 (by omega)
 obtain ⟨_,_,_,q3⟩:=hct n0 hn
 rw [hti] at q3
 have c0:w2.cell? ⟨b,0,none⟩=some (.slice (some ⟨gt,ot,none⟩) E.ts.length E.cap):=by rw [←hAd];exact jq0 hblk 0
 have c1:w2.cell? ⟨b,1,none⟩=some (.int .i64 (n0:Int)):=jq0 hblk 1
 have x2:w2.cell? ⟨g,2,none⟩=some (.int .i64 0):=jq0 HI2.o 2
 have y2:w2.frozen? ⟨g,2,none⟩=false:=jq1 HI2.o 2
 have i1:(0:Int)≤(n0:Int):=Int.natCast_nonneg _
 have i2:(n0:Int)<(E.ts.length:Int):=by omega
 have hbg:b≠g:=by omega
 have htg:gt≠g:=by omega
 have g0:(w2.setCell ⟨g,2,none⟩ (.int .i64 (t.pos:Int))).drew.cell? ⟨b,0,none⟩=some (.slice (some ⟨gt,ot,none⟩) E.ts.length E.cap):=by
  show (w2.setCell ⟨g,2,none⟩ (.int .i64 (t.pos:Int))).cell? ⟨b,0,none⟩=_
  exact (jz0 hbg).trans c0
 have g1:(w2.setCell ⟨g,2,none⟩ (.int .i64 (t.pos:Int))).drew.cell? ⟨b,1,none⟩=some (.int .i64 (n0:Int)):=by
  show (w2.setCell ⟨g,2,none⟩ (.int .i64 (t.pos:Int))).cell? ⟨b,1,none⟩=_
  exact (jz0 hbg).trans c1
 have g3:(w2.setCell ⟨g,2,none⟩ (.int .i64 (t.pos:Int))).drew.cell? ⟨gt,ot+n0*4+3,none⟩=some (.int .i64 (t.pos:Int)):=by
  show (w2.setCell ⟨g,2,none⟩ (.int .i64 (t.pos:Int))).cell? ⟨gt,ot+n0*4+3,none⟩=_
  exact (jz0 htg).trans q3
 have HBLK:=hdd hblk;have HPT:=hdd hpt;have HRR:=hdd hr2
 clear hblk hpt hr2 hd hti hct h2' hAd
 go_region_held3 (fun w'=>w'.cell? ⟨b,0,none⟩=some (.slice (some ⟨gt,ot,none⟩) E.ts.length E.cap)∧w'.cell? ⟨b,1,none⟩=some (.int .i64 (n0:Int))∧w'.cell? ⟨gt,ot+n0*4+3,none⟩=some (.int .i64 (t.pos:Int))) (first|go_keep|(go_split_ands;refine ⟨?_,?_,?_⟩<;>first|assumption|exact c0|exact c1|exact q3|exact g0|exact g1|exact g3)) (fail)
 clear c0 c1 x2 y2 g0 g1 g3 q3
 obtain ⟨w3,hw3⟩: ∃u,(w2.setCell ⟨g,2,none⟩ (.int .i64 (t.pos:Int))).drewN 1=u:=⟨_,rfl⟩
 have HI3:Hid (IB g {flat0 with kind:=6,pos:=t.pos} nil nil nil nil w3):=by rw [←hw3];exact jx2 (IB.set_pos HI2.o t.pos) 1
 have HR3:Hid (IB W.heap.size flat0 nil nil nil nil w3):=by rw [←hw3];exact jx2 (jq2 HR2.o (by omega) _) 1
 have HB3:Hid (w3.heap[b]?=some (.cells (pcells E n0 s) 71 (0,0))):=by rw [←hw3];exact jx2 (jq2 HBLK.o (by omega) _) 1
 have HF3:Hid (Fr (fun k=>k=b) W w3):=by rw [←hw3];exact (HA2.o.2.setCell (p:=⟨g,2,none⟩) (.inr (by show W.heap.size≤g;omega)) _).drewN 1
 have HW3:Hid ((w2.setCell ⟨g,2,none⟩ (.int .i64 (t.pos:Int))).drew=w3):=hw3
 clear hw3 HI2 HR2 HBLK
 rw [HW3.o]
 clear HW3
 have c1:w3.cell? ⟨b,1,none⟩=some (.int .i64 (n0:Int)):=jq0 HB3.o 1
 have f1:w3.frozen? ⟨b,1,none⟩=false:=jq1 HB3.o 1
 have c3:w3.cell? ⟨b,3,none⟩=some (.int .i64 (s.items:Int)):=jq0 HB3.o 3
 have f3:w3.frozen? ⟨b,3,none⟩=false:=jq1 HB3.o 3
 have w6:IntKind.i64.wrap ((s.items:Int)+1)=(s.items:Int)+1:=IntWalk.i64_in _ (by omega)
 have w7:IntKind.i64.wrap ((n0:Int)+1)=(n0:Int)+1:=IntWalk.i64_in _ (by omega)
 go_upto_region 12 with fail
 obtain ⟨w4,hw4⟩: ∃u,(w3.setCell ⟨b,3,none⟩ (.int .i64 ((s.items:Int)+1))).setCell ⟨b,1,none⟩ (.int .i64 ((n0:Int)+1))=u:=⟨_,rfl⟩
 have HF4:Hid (Fr (fun k=>k=b) W w4):=by rw [←hw4];exact (HF3.o.setb 3 _).setb 1 _
 have HI:Hid (IB g {flat0 with kind:=6,pos:=t.pos} nil nil nil nil w4):=by rw [←hw4];exact jq2 (jq2 HI3.o (by omega) _) (by omega) _
 have HR:Hid (IB W.heap.size flat0 nil nil nil nil w4):=by rw [←hw4];exact jq2 (jq2 HR3.o (by omega) _) (by omega) _
 have HA:Hid (After E b ⟨r,s.items+1,0⟩ W w4):=by
  have hbk:=jv8 HB3.o HE0.o
  rw [hw4,HR0.o] at hbk
  exact ⟨mod_PW HP.o HF4.o (by show s.items+1≤600;omega) (by omega) HRR.o hbk,HF4.o⟩
 rw [hw4]
 clear hw4 HF4 HI3 HR3 HB3 HF3 HA2 c1 f1 c3 f3 w6 w7 HPT HRR
 have k_0:w4.cell? ⟨g,0,none⟩=some (.int .i64 6):=jq0 HI.o 0
 have f_0:w4.frozen? ⟨g,0,none⟩=false:=jq1 HI.o 0
 go_wp2_with fail
 refine (name_any E b ⟨r,s.items+1,0⟩ _ HA.o.1).mono ?_
 rw [H1.o]
 rintro e w5 ⟨rfl,hA⟩
 have GI:Hid (IB g {flat0 with kind:=6,pos:=t.pos} nil nil nil nil w5):=hA.2.blk HI.o (by omega)
 have GR:Hid (IB W.heap.size flat0 nil nil nil nil w5):=hA.2.blk HR.o (by omega)
 have GA:=hdd (HA.o.trans hA)
 clear hA
 try clear k_0 f_0
 clear HI HR HA
 revert GI GR GA;intro HI HR HA
 have k_0:w5.cell? ⟨g,0,none⟩=some (.int .i64 6):=jq0 HI.o 0
 have f_0:w5.frozen? ⟨g,0,none⟩=false:=jq1 HI.o 0
 have k_1:w5.cell? ⟨g,1,none⟩=some (.string ⟨#[]⟩):=jq0 HI.o 1
 have f_1:w5.frozen? ⟨g,1,none⟩=false:=jq1 HI.o 1
 go_wp2_with fail
 refine (jx3 E b s1 [61] _ (HA.o.set (i:=1) (by omega) (by omega) (.string ⟨n.toArray⟩)).1 (nd_of (by decide))).mono ?_
 rw [H2.o]
 rintro e w6 ⟨rfl,hA⟩
 have GI:Hid (IB g {flat0 with kind:=6,pos:=t.pos,name:=n} nil nil nil nil w6):=hA.2.blk (IB.set_name HI.o n) (by omega)
 have GR:Hid (IB W.heap.size flat0 nil nil nil nil w6):=hA.2.blk (jq2 HR.o (by omega) _) (by omega)
 have GA:=hdd ((HA.o.set (i:=1) (by omega) (by omega) (.string ⟨n.toArray⟩)).trans hA)
 clear hA
 try clear k_0 f_0 k_1 f_1
 clear HI HR HA
 revert GI GR GA;intro HI HR HA
 go_wp2_with fail
 refine (number_any E b s2 _ HA.o.1).mono ?_
 rw [H3.o]
 rintro e w7 ⟨rfl,hA⟩
 have GI:Hid (IB g {flat0 with kind:=6,pos:=t.pos,name:=n} nil nil nil nil w7):=hA.2.blk HI.o (by omega)
 have GR:Hid (IB W.heap.size flat0 nil nil nil nil w7):=hA.2.blk HR.o (by omega)
 have GA:=hdd (HA.o.trans hA)
 clear hA
 clear HI HR HA
 revert GI GR GA;intro HI HR HA
 go_wp2_with fail
 refine (days_any E b s3 _ HA.o.1 k).mono ?_
 rw [H4.o]
 rintro e w8 ⟨rfl,hA⟩
 have GI:Hid (IB g {flat0 with kind:=6,pos:=t.pos,name:=n} nil nil nil nil w8):=hA.2.blk HI.o (by omega)
 have GR:Hid (IB W.heap.size flat0 nil nil nil nil w8):=hA.2.blk HR.o (by omega)
 have GA:=hdd (HA.o.trans hA)
 clear hA
 clear HI HR HA
 revert GI GR GA;intro HI HR HA
 have k_7:w8.cell? ⟨g,7,none⟩=some (.int .i64 0):=jq0 HI.o 7
 have f_7:w8.frozen? ⟨g,7,none⟩=false:=jq1 HI.o 7
 have k_8:w8.cell? ⟨g,8,none⟩=some (.bool false):=jq0 HI.o 8
 have f_8:w8.frozen? ⟨g,8,none⟩=false:=jq1 HI.o 8
 have k_9:w8.cell? ⟨g,9,none⟩=some (.string ⟨#[]⟩):=jq0 HI.o 9
 have f_9:w8.frozen? ⟨g,9,none⟩=false:=jq1 HI.o 9
 go_wp2_with fail
 refine (jx3 E b s4 [59] _ (((HA.o.set (i:=7) (by omega) (by omega) (.int .i64 (d.days:Int))).set (i:=8) (by omega) (by omega) (.bool d.bus)).set (i:=9) (by omega) (by omega) (.string ⟨d.name.toArray⟩)).1 (nd_of (by decide))).mono ?_
 rw [H5.o]
 rintro e w9 ⟨rfl,hA⟩
 have GI:Hid (IB g {flat0 with kind:=6,pos:=t.pos,name:=n,within:=d} nil nil nil nil w9):=hA.2.blk (IB.set_within HI.o d) (by omega)
 have GR:Hid (IB W.heap.size flat0 nil nil nil nil w9):=hA.2.blk (jq2 (jq2 (jq2 HR.o (by omega) _) (by omega) _) (by omega) _) (by omega)
 have GA:=hdd ((((HA.o.set (i:=7) (by omega) (by omega) (.int .i64 (d.days:Int))).set (i:=8) (by omega) (by omega) (.bool d.bus)).set (i:=9) (by omega) (by omega) (.string ⟨d.name.toArray⟩)).trans hA)
 clear hA
 try clear k_7 f_7 k_8 f_8 k_9 f_9
 clear HI HR HA
 revert GI GR GA;intro HI HR HA
 obtain ⟨w99,hw99,hA99,hl99,ho99⟩:=item_end (g:=flat0) (a1:=nil) (a2:=nil) (a3:=nil) (a4:=nil) HR.o HA.o hbl {flat0 with kind:=6,pos:=t.pos,name:=n,within:=d} nil nil nil nil
 have HW99:=hdd hw99;clear hw99
 have HA99:=hdd hA99;clear hA99
 have HL99:=hdd hl99;clear hl99 ho99
 have HI9:Hid (IB g {flat0 with kind:=6,pos:=t.pos,name:=n,within:=d} nil nil nil nil _):=HI.o
 have HR9:Hid (IB W.heap.size flat0 nil nil nil nil _):=HR.o
 go_wp2_with (first|(refine wpList_load_mid rfl 57 _ rfl g 0 rfl (icells {flat0 with kind:=6,pos:=t.pos,name:=n,within:=d} nil nil nil nil) _ HI9.o.range Tryd.underlying57 rfl (jx6 _ _ _ _ _) ?_)|(refine wpList_store_mid rfl 57 _ _ rfl W.heap.size 0 (icells {flat0 with kind:=6,pos:=t.pos,name:=n,within:=d} nil nil nil nil).toArray rfl rfl (HR9.o.there' _ _ _ _ _) (jq6 _ _ _ _ _) (ic1 ..) ?_;rw [HW99.o]))
 exact bodyPost_ret (v:= .agg (icells {flat0 with kind:=6,pos:=t.pos,name:=n,within:=d} nil nil nil nil).toArray) (jq8 Tryd.results28 rfl HL99.o) rfl ⟨⟨nil,nil,nil,rfl,FlatOK.nil _ _ _ rfl rfl rfl⟩,HA99.o⟩
theorem item_p7 (E:Env) (b:Nat) (s:St) (W:World) (h:PW E b s W) (i:Bool) (hk:rkind i s rwords=7) (t:Tok) (r:List Tok) (hr:s.rest=t::r) (he:s.err=0) (hit:s.items≠600) (n:Bytes) (s1:St) (u2:Unit) (s2:St) (a:Ratio) (s3:St) (u:Bytes) (s4:St) (u5:Unit) (s5:St) (h1:name ⟨r,s.items+1,0⟩=(n,s1)) (h2:expect [[61]] s1=(u2,s2)) (h3:Pr.ratio s2=(a,s3)) (h4:name s3=(u,s4)) (h5:expect [[59]] s4=(u5,s5)):
  Calls Tryd.prog 28 #[.pointer (some ⟨b,0,none⟩),.bool i] W fun e w'=>(∃sc sd sn,e= .returned (.agg (icells {flat0 with kind:=7,pos:=t.pos,name:=n,num:=a,unit:=u} sc sd sn nil).toArray)∧FlatOK W.heap.size {flat0 with kind:=7,pos:=t.pos,name:=n,num:=a,unit:=u} sc sd sn w')∧After E b s5 W w':=by
 have H1:=hdd h1;clear h1
 have H2:=hdd h2;clear h2
 have H3:=hdd h3;clear h3
 have H4:=hdd h4;clear h4
 have H5:=hdd h5;clear h5
 have hbl:=h.2.2.1
 have hln:=h.1
 have HP:=hdd h;have HK:=hdd hk;have HR0:=hdd hr;have HE0:=hdd he
 have d6: ¬(600:Int)≤(s.items:Int):=by have:=h.2.1;omega
 clear h hk hr he hit
 go_enter Tryd.func28,Tryd.ntmps28
 go_wp2_with fail
 refine (jv1 E b s _ ((After.start HP.o).alloc _).1 i).mono ?_
 rw [HK.o]
 rintro e w1 ⟨rfl,hA⟩
 have HR1:Hid (IB W.heap.size flat0 nil nil nil nil w1):=hA.2.blk (jq5 (by simp)) (by omega)
 have HA1:=hdd (((After.start HP.o).alloc _).trans hA)
 have hs1:W.heap.size<w1.heap.size:=jq7 HR1.o
 clear hA
 obtain ⟨g,HG⟩: ∃q,Hid (w1.heap.size=q):=⟨_,rfl⟩
 obtain ⟨w2,hw2⟩: ∃u,w1.alloc (.cells (icells {flat0 with kind:=7} nil nil nil nil).toArray 57)=u:=⟨_,rfl⟩
 have HI2:Hid (IB g {flat0 with kind:=7} nil nil nil nil w2):=by rw [←hw2];exact jq5 HG.o.symm
 have HA2:Hid (After E b s W w2):=by rw [←hw2];exact HA1.o.alloc _
 have HR2:Hid (IB W.heap.size flat0 nil nil nil nil w2):=by rw [←hw2];exact jq9 HR1.o _
 have hgW:W.heap.size<g:=by have:=HG.o;omega
 have HW2:=hdd hw2
 clear hw2 HA1 HR1
 go_upto_region 2 with (first|(refine wpList_build rfl 57 _ rfl #[(0,.int .i64 ((7:Nat):Int))] ?_ _ (jz6 7 _) ?_;(simp [Act.eval]))|(refine jq4 rfl 57 _ _ rfl rfl (icells {flat0 with kind:=7} nil nil nil nil).toArray rfl (jq6 _ _ _ _ _) (ic1 ..) (by rfl) ?_))
 rw [HW2.o,HG.o]
 clear HW2
 have k0:w2.cell? ⟨g,0,none⟩=some (.int .i64 7):=jq0 HI2.o 0
 go_upto_region 5 with fail
 clear k0
 obtain ⟨_,hit,hb2,hpt,n0,h1',h2',hblk⟩:=id HA2.o.1
 have hd:t::r=E.ts.drop n0:=by rw [←HR0.o];exact h2'
 obtain ⟨hn,hti,hr2⟩:=jz2 hd
 obtain ⟨gt,ot,hAd,hgt,hct⟩:=hpt.2 (by omega)
 obtain ⟨_,_,_,q3⟩:=hct n0 hn
 rw [hti] at q3
 have c0:w2.cell? ⟨b,0,none⟩=some (.slice (some ⟨gt,ot,none⟩) E.ts.length E.cap):=by rw [←hAd];exact jq0 hblk 0
 have c1:w2.cell? ⟨b,1,none⟩=some (.int .i64 (n0:Int)):=jq0 hblk 1
 have x2:w2.cell? ⟨g,2,none⟩=some (.int .i64 0):=jq0 HI2.o 2
 have y2:w2.frozen? ⟨g,2,none⟩=false:=jq1 HI2.o 2
 have i1:(0:Int)≤(n0:Int):=Int.natCast_nonneg _
 have i2:(n0:Int)<(E.ts.length:Int):=by omega
 have hbg:b≠g:=by omega
 have htg:gt≠g:=by omega
 have g0:(w2.setCell ⟨g,2,none⟩ (.int .i64 (t.pos:Int))).drew.cell? ⟨b,0,none⟩=some (.slice (some ⟨gt,ot,none⟩) E.ts.length E.cap):=by
  show (w2.setCell ⟨g,2,none⟩ (.int .i64 (t.pos:Int))).cell? ⟨b,0,none⟩=_
  exact (jz0 hbg).trans c0
 have g1:(w2.setCell ⟨g,2,none⟩ (.int .i64 (t.pos:Int))).drew.cell? ⟨b,1,none⟩=some (.int .i64 (n0:Int)):=by
  show (w2.setCell ⟨g,2,none⟩ (.int .i64 (t.pos:Int))).cell? ⟨b,1,none⟩=_
  exact (jz0 hbg).trans c1
 have g3:(w2.setCell ⟨g,2,none⟩ (.int .i64 (t.pos:Int))).drew.cell? ⟨gt,ot+n0*4+3,none⟩=some (.int .i64 (t.pos:Int)):=by
  show (w2.setCell ⟨g,2,none⟩ (.int .i64 (t.pos:Int))).cell? ⟨gt,ot+n0*4+3,none⟩=_
  exact (jz0 htg).trans q3
 have HBLK:=hdd hblk;have HPT:=hdd hpt;have HRR:=hdd hr2
 clear hblk hpt hr2 hd hti hct h2' hAd
 go_region_held3 (fun w'=>w'.cell? ⟨b,0,none⟩=some (.slice (some ⟨gt,ot,none⟩) E.ts.length E.cap)∧w'.cell? ⟨b,1,none⟩=some (.int .i64 (n0:Int))∧w'.cell? ⟨gt,ot+n0*4+3,none⟩=some (.int .i64 (t.pos:Int))) (first|go_keep|(go_split_ands;refine ⟨?_,?_,?_⟩<;>first|assumption|exact c0|exact c1|exact q3|exact g0|exact g1|exact g3)) (fail)
 clear c0 c1 x2 y2 g0 g1 g3 q3
 obtain ⟨w3,hw3⟩: ∃u,(w2.setCell ⟨g,2,none⟩ (.int .i64 (t.pos:Int))).drewN 1=u:=⟨_,rfl⟩
 have HI3:Hid (IB g {flat0 with kind:=7,pos:=t.pos} nil nil nil nil w3):=by rw [←hw3];exact jx2 (IB.set_pos HI2.o t.pos) 1
 have HR3:Hid (IB W.heap.size flat0 nil nil nil nil w3):=by rw [←hw3];exact jx2 (jq2 HR2.o (by omega) _) 1
 have HB3:Hid (w3.heap[b]?=some (.cells (pcells E n0 s) 71 (0,0))):=by rw [←hw3];exact jx2 (jq2 HBLK.o (by omega) _) 1
 have HF3:Hid (Fr (fun k=>k=b) W w3):=by rw [←hw3];exact (HA2.o.2.setCell (p:=⟨g,2,none⟩) (.inr (by show W.heap.size≤g;omega)) _).drewN 1
 have HW3:Hid ((w2.setCell ⟨g,2,none⟩ (.int .i64 (t.pos:Int))).drew=w3):=hw3
 clear hw3 HI2 HR2 HBLK
 rw [HW3.o]
 clear HW3
 have c1:w3.cell? ⟨b,1,none⟩=some (.int .i64 (n0:Int)):=jq0 HB3.o 1
 have f1:w3.frozen? ⟨b,1,none⟩=false:=jq1 HB3.o 1
 have c3:w3.cell? ⟨b,3,none⟩=some (.int .i64 (s.items:Int)):=jq0 HB3.o 3
 have f3:w3.frozen? ⟨b,3,none⟩=false:=jq1 HB3.o 3
 have w6:IntKind.i64.wrap ((s.items:Int)+1)=(s.items:Int)+1:=IntWalk.i64_in _ (by omega)
 have w7:IntKind.i64.wrap ((n0:Int)+1)=(n0:Int)+1:=IntWalk.i64_in _ (by omega)
 go_upto_region 12 with fail
 obtain ⟨w4,hw4⟩: ∃u,(w3.setCell ⟨b,3,none⟩ (.int .i64 ((s.items:Int)+1))).setCell ⟨b,1,none⟩ (.int .i64 ((n0:Int)+1))=u:=⟨_,rfl⟩
 have HF4:Hid (Fr (fun k=>k=b) W w4):=by rw [←hw4];exact (HF3.o.setb 3 _).setb 1 _
 have HI:Hid (IB g {flat0 with kind:=7,pos:=t.pos} nil nil nil nil w4):=by rw [←hw4];exact jq2 (jq2 HI3.o (by omega) _) (by omega) _
 have HR:Hid (IB W.heap.size flat0 nil nil nil nil w4):=by rw [←hw4];exact jq2 (jq2 HR3.o (by omega) _) (by omega) _
 have HA:Hid (After E b ⟨r,s.items+1,0⟩ W w4):=by
  have hbk:=jv8 HB3.o HE0.o
  rw [hw4,HR0.o] at hbk
  exact ⟨mod_PW HP.o HF4.o (by show s.items+1≤600;omega) (by omega) HRR.o hbk,HF4.o⟩
 rw [hw4]
 clear hw4 HF4 HI3 HR3 HB3 HF3 HA2 c1 f1 c3 f3 w6 w7 HPT HRR
 have k_0:w4.cell? ⟨g,0,none⟩=some (.int .i64 7):=jq0 HI.o 0
 have f_0:w4.frozen? ⟨g,0,none⟩=false:=jq1 HI.o 0
 go_wp2_with fail
 refine (name_any E b ⟨r,s.items+1,0⟩ _ HA.o.1).mono ?_
 rw [H1.o]
 rintro e w5 ⟨rfl,hA⟩
 have GI:Hid (IB g {flat0 with kind:=7,pos:=t.pos} nil nil nil nil w5):=hA.2.blk HI.o (by omega)
 have GR:Hid (IB W.heap.size flat0 nil nil nil nil w5):=hA.2.blk HR.o (by omega)
 have GA:=hdd (HA.o.trans hA)
 clear hA
 try clear k_0 f_0
 clear HI HR HA
 revert GI GR GA;intro HI HR HA
 have k_0:w5.cell? ⟨g,0,none⟩=some (.int .i64 7):=jq0 HI.o 0
 have f_0:w5.frozen? ⟨g,0,none⟩=false:=jq1 HI.o 0
 have k_1:w5.cell? ⟨g,1,none⟩=some (.string ⟨#[]⟩):=jq0 HI.o 1
 have f_1:w5.frozen? ⟨g,1,none⟩=false:=jq1 HI.o 1
 go_wp2_with fail
 refine (jx3 E b s1 [61] _ (HA.o.set (i:=1) (by omega) (by omega) (.string ⟨n.toArray⟩)).1 (nd_of (by decide))).mono ?_
 rw [H2.o]
 rintro e w6 ⟨rfl,hA⟩
 have GI:Hid (IB g {flat0 with kind:=7,pos:=t.pos,name:=n} nil nil nil nil w6):=hA.2.blk (IB.set_name HI.o n) (by omega)
 have GR:Hid (IB W.heap.size flat0 nil nil nil nil w6):=hA.2.blk (jq2 HR.o (by omega) _) (by omega)
 have GA:=hdd ((HA.o.set (i:=1) (by omega) (by omega) (.string ⟨n.toArray⟩)).trans hA)
 clear hA
 try clear k_0 f_0 k_1 f_1
 clear HI HR HA
 revert GI GR GA;intro HI HR HA
 go_wp2_with fail
 refine (ratio_any E b s2 _ HA.o.1).mono ?_
 rw [H3.o]
 rintro e w7 ⟨rfl,hA⟩
 have GI:Hid (IB g {flat0 with kind:=7,pos:=t.pos,name:=n} nil nil nil nil w7):=hA.2.blk HI.o (by omega)
 have GR:Hid (IB W.heap.size flat0 nil nil nil nil w7):=hA.2.blk HR.o (by omega)
 have GA:=hdd (HA.o.trans hA)
 clear hA
 clear HI HR HA
 revert GI GR GA;intro HI HR HA
 have k_16:w7.cell? ⟨g,16,none⟩=some (.int .i64 0):=jq0 HI.o 16
 have f_16:w7.frozen? ⟨g,16,none⟩=false:=jq1 HI.o 16
 have k_17:w7.cell? ⟨g,17,none⟩=some (.int .i64 0):=jq0 HI.o 17
 have f_17:w7.frozen? ⟨g,17,none⟩=false:=jq1 HI.o 17
 go_wp2_with fail
 refine (name_any E b s3 _ ((HA.o.set (i:=16) (by omega) (by omega) (.int .i64 (a.num:Int))).set (i:=17) (by omega) (by omega) (.int .i64 (a.den:Int))).1).mono ?_
 rw [H4.o]
 rintro e w8 ⟨rfl,hA⟩
 have GI:Hid (IB g {flat0 with kind:=7,pos:=t.pos,name:=n,num:=a} nil nil nil nil w8):=hA.2.blk (IB.set_num HI.o a) (by omega)
 have GR:Hid (IB W.heap.size flat0 nil nil nil nil w8):=hA.2.blk (jq2 (jq2 HR.o (by omega) _) (by omega) _) (by omega)
 have GA:=hdd (((HA.o.set (i:=16) (by omega) (by omega) (.int .i64 (a.num:Int))).set (i:=17) (by omega) (by omega) (.int .i64 (a.den:Int))).trans hA)
 clear hA
 try clear k_16 f_16 k_17 f_17
 clear HI HR HA
 revert GI GR GA;intro HI HR HA
 have k_18:w8.cell? ⟨g,18,none⟩=some (.string ⟨#[]⟩):=jq0 HI.o 18
 have f_18:w8.frozen? ⟨g,18,none⟩=false:=jq1 HI.o 18
 go_wp2_with fail
 refine (jx3 E b s4 [59] _ (HA.o.set (i:=18) (by omega) (by omega) (.string ⟨u.toArray⟩)).1 (nd_of (by decide))).mono ?_
 rw [H5.o]
 rintro e w9 ⟨rfl,hA⟩
 have GI:Hid (IB g {flat0 with kind:=7,pos:=t.pos,name:=n,num:=a,unit:=u} nil nil nil nil w9):=hA.2.blk (IB.set_unit HI.o u) (by omega)
 have GR:Hid (IB W.heap.size flat0 nil nil nil nil w9):=hA.2.blk (jq2 HR.o (by omega) _) (by omega)
 have GA:=hdd ((HA.o.set (i:=18) (by omega) (by omega) (.string ⟨u.toArray⟩)).trans hA)
 clear hA
 try clear k_18 f_18
 clear HI HR HA
 revert GI GR GA;intro HI HR HA
 obtain ⟨w99,hw99,hA99,hl99,ho99⟩:=item_end (g:=flat0) (a1:=nil) (a2:=nil) (a3:=nil) (a4:=nil) HR.o HA.o hbl {flat0 with kind:=7,pos:=t.pos,name:=n,num:=a,unit:=u} nil nil nil nil
 have HW99:=hdd hw99;clear hw99
 have HA99:=hdd hA99;clear hA99
 have HL99:=hdd hl99;clear hl99 ho99
 have HI9:Hid (IB g {flat0 with kind:=7,pos:=t.pos,name:=n,num:=a,unit:=u} nil nil nil nil _):=HI.o
 have HR9:Hid (IB W.heap.size flat0 nil nil nil nil _):=HR.o
 go_wp2_with (first|(refine wpList_load_mid rfl 57 _ rfl g 0 rfl (icells {flat0 with kind:=7,pos:=t.pos,name:=n,num:=a,unit:=u} nil nil nil nil) _ HI9.o.range Tryd.underlying57 rfl (jx6 _ _ _ _ _) ?_)|(refine wpList_store_mid rfl 57 _ _ rfl W.heap.size 0 (icells {flat0 with kind:=7,pos:=t.pos,name:=n,num:=a,unit:=u} nil nil nil nil).toArray rfl rfl (HR9.o.there' _ _ _ _ _) (jq6 _ _ _ _ _) (ic1 ..) ?_;rw [HW99.o]))
 exact bodyPost_ret (v:= .agg (icells {flat0 with kind:=7,pos:=t.pos,name:=n,num:=a,unit:=u} nil nil nil nil).toArray) (jq8 Tryd.results28 rfl HL99.o) rfl ⟨⟨nil,nil,nil,rfl,FlatOK.nil _ _ _ rfl rfl rfl⟩,HA99.o⟩
end Go.Proofs.YtfaflipphkoiiaaDoor.Rp
