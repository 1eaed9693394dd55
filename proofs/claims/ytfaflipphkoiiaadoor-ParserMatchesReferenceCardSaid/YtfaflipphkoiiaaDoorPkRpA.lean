/-
  The reference's parser in memory; what its functions fail, is, next, may, must, name and number return. What some functions of the reference's parser return (printed by mkrp2.py): ratio, date, days. What some functions of the reference's parser return (printed by mkrp3.py): span, day, outcome. What some functions of the reference's parser return (printed by mkrp4.py): price, unit.
-/
import Derived.Test.YtfaflipphkoiiaaDoorPkParA
import Derived.Test.YtfaflipphkoiiaaDoorRpPlain
import Derived.Deep.Cut
set_option maxHeartbeats 64000000
set_option maxRecDepth 100000
set_option linter.unusedVariables false
namespace Go.Proofs.YtfaflipphkoiiaaDoor.Rp
open Go.RowKit Mem Pr
open Lx (Tok isDigit isLetter isSym)
def PTok (E:Env) (b:Nat) (W:World):Prop:=(∀t∈E.ts,Wt t)∧(
 0<E.ts.length→ ∃g o,E.A=some ⟨g,o,none⟩∧g<b∧ ∀i (h:i<E.ts.length),W.cell? ⟨g,o+i*4,none⟩=some (.int .i64 (E.ts[i].kind:Int))∧W.cell? ⟨g,o+i*4+1,none⟩=some (.string ⟨E.ts[i].text.toArray⟩)∧
  W.cell? ⟨g,o+i*4+2,none⟩=some (.int .i64 (E.ts[i].n:Int))∧W.cell? ⟨g,o+i*4+3,none⟩=some (.int .i64 (E.ts[i].pos:Int)))
def PW (E:Env) (b:Nat) (s:St) (W:World):Prop:=
 E.ts.length≤5000∧s.items≤600∧b<W.heap.size∧PTok E b W∧ ∃n,n≤E.ts.length∧s.rest=E.ts.drop n∧W.heap[b]?=some (.cells (pcells E n s) 71 (0,0))
theorem PTok.fr {E:Env} {b:Nat} {W W':World} {S:Nat→Prop} (h:PTok E b W) (hl:b<W.heap.size) (hf:Fr S W W') (hS: ∀k,k<b→ ¬S k):PTok E b W':=by
 refine ⟨h.1,?_⟩
 intro hp
 obtain ⟨g,o,hA,hg,hc⟩:=h.2 hp
 have hb:W'.heap[g]?=W.heap[g]?:=hf.block g (by omega) (hS g hg)
 refine ⟨g,o,hA,hg,fun i hi=>?_⟩
 obtain ⟨a0,a1,a2,a3⟩:=hc i hi
 exact ⟨(World.cell?_of_block hb).trans a0,(World.cell?_of_block hb).trans a1,(World.cell?_of_block hb).trans a2,(World.cell?_of_block hb).trans a3⟩
theorem PW.fr {E:Env} {b:Nat} {s:St} {W W':World} {S:Nat→Prop} (h:PW E b s W) (hf:Fr S W W') (hS: ∀k,k≤b→ ¬S k):PW E b s W':=by
 obtain ⟨h1,h2,h3,h4,n,h5,h6,h7⟩:=h
 exact ⟨h1,h2,Nat.lt_of_lt_of_le h3 hf.size,h4.fr h3 hf (fun k hk=>hS k (by omega)),n,h5,h6,hf.blk h7 (hS b (Nat.le_refl _))⟩
theorem PW.drewN {E:Env} {b:Nat} {s:St} {W:World} (h:PW E b s W) (n:Nat):PW E b s (W.drewN n):=h.fr (S:=fun _=>False) ((Fr.refl _ _).drewN n) (fun _ _ h=>h)
theorem PW.cells {E:Env} {b:Nat} {s:St} {W:World} (h:PW E b s W): ∃n,n≤E.ts.length∧s.rest=E.ts.drop n∧W.cell? ⟨b,0,none⟩=some (.slice E.A E.ts.length E.cap)∧W.cell? ⟨b,1,none⟩=some (.int .i64 (n:Int))∧W.cell? ⟨b,2,none⟩=some (.int .i64 (E.size:Int))∧
  W.cell? ⟨b,3,none⟩=some (.int .i64 (s.items:Int))∧W.cell? ⟨b,4,none⟩=some (.int .i64 (s.err:Int))∧W.cell? ⟨b,5,none⟩=some (.int .i64 (atOf E.size s:Int)):=by
 obtain ⟨_,_,_,_,n,h1,h2,h3⟩:=h
 exact ⟨n,h1,h2,jq0 h3 0,jq0 h3 1,jq0 h3 2,jq0 h3 3,jq0 h3 4,jq0 h3 5⟩
theorem mod_PW {E:Env} {b:Nat} {s:St} {W:World} (h:PW E b s W) {s':St} {n':Nat} {W':World} (hf:Fr (fun k=>k=b) W W') (hi:s'.items≤600) (hn:n'≤E.ts.length) (hr:s'.rest=E.ts.drop n')
  (hb:W'.heap[b]?=some (.cells (pcells E n' s') 71 (0,0))):PW E b s' W':=
 ⟨h.1,hi,Nat.lt_of_lt_of_le h.2.2.1 hf.size,h.2.2.2.1.fr h.2.2.1 hf (fun k hk e=>by omega),n',hn,hr,hb⟩
theorem set_err {E:Env} {b n:Nat} {s:St} {W:World} (h:W.heap[b]?=some (.cells (pcells E n s) 71 (0,0))) (er a:Nat) (s':St) (hi:s'.items=s.items) (he:s'.err=er) (ha:atOf E.size s'=a):
  ((W.setCell ⟨b,4,none⟩ (.int .i64 er)).setCell ⟨b,5,none⟩ (.int .i64 a)).heap[b]?=some (.cells (pcells E n s') 71 (0,0)):=by
 have:=jx4 (jx4 h 4 (.int .i64 er)) 5 (.int .i64 a)
 subst he ha
 unfold pcells
 rw [hi]
 exact this
theorem set_err' {E:Env} {b n:Nat} {s:St} {W:World} (h:W.heap[b]?=some (.cells (pcells E n s) 71 (0,0))) (er a:Nat) (s':St) (hi:s'.items=s.items) (he:s'.err=er) (ha:atOf E.size s'=a):
  ((W.setCell ⟨b,5,none⟩ (.int .i64 a)).setCell ⟨b,4,none⟩ (.int .i64 er)).heap[b]?=some (.cells (pcells E n s') 71 (0,0)):=by
 have:=jx4 (jx4 h 5 (.int .i64 a)) 4 (.int .i64 er)
 subst he ha
 unfold pcells
 rw [hi]
 exact this
theorem set_next {E:Env} {b n:Nat} {s:St} {W:World} (h:W.heap[b]?=some (.cells (pcells E n s) 71 (0,0))) (he:s.err=0):
  (W.setCell ⟨b,1,none⟩ (.int .i64 ((n:Int)+1))).heap[b]?=some (.cells (pcells E (n+1) {s with rest:=s.rest.tail}) 71 (0,0)):=by
 have:=jx4 h 1 (.int .i64 ((n:Int)+1))
 have e:atOf E.size {s with rest:=s.rest.tail}=atOf E.size s:=by simp [atOf,he]
 unfold pcells
 rw [e]
 exact this
theorem PW.wts {E:Env} {b:Nat} {s:St} {W:World} (h:PW E b s W):Wts s:=by
 obtain ⟨_,_,_,h4,n,_,h6,_⟩:=h
 intro t ht
 rw [h6] at ht
 exact h4.1 t ((List.drop_suffix n E.ts).subset ht)
theorem fail_any (E:Env) (b:Nat) (s:St) (W:World) (h:PW E b s W):
  Calls Tryd.prog 43 #[.pointer (some ⟨b,0,none⟩)] W fun e w'=>e= .returned (.tuple #[])∧PW E b (fail s).2 w'∧Fr (fun k=>k=b) W w':=by
 obtain ⟨_,hit,hbl,hpt,n,h1,h2,hblk⟩:=id h
 have c0:W.cell? ⟨b,0,none⟩=some (.slice E.A E.ts.length E.cap):=jq0 hblk 0
 have c1:W.cell? ⟨b,1,none⟩=some (.int .i64 (n:Int)):=jq0 hblk 1
 have c2:W.cell? ⟨b,2,none⟩=some (.int .i64 (E.size:Int)):=jq0 hblk 2
 have c4:W.cell? ⟨b,4,none⟩=some (.int .i64 (s.err:Int)):=jq0 hblk 4
 have c5:W.cell? ⟨b,5,none⟩=some (.int .i64 (atOf E.size s:Int)):=jq0 hblk 5
 have f4:W.frozen? ⟨b,4,none⟩=false:=jq1 hblk 4
 have f5:W.frozen? ⟨b,5,none⟩=false:=jq1 hblk 5
 have hl:=h.1
 have HP:=hdd h;clear h
 have HBLK:=hdd hblk;clear hblk
 have HPT:=hdd hpt;clear hpt
 by_cases he:s.err=0
 ·cases hr:s.rest with
  |nil=>
   have hv:(fail s).2= {s with err:=7}:=by simp [fail,hr,he]
   have hat:atOf E.size {s with err:=7}=E.size:=by simp [atOf]
   rw [hr] at h2
   have hn:=drop_nil h2 h1
   rw [hv]
   have HE:=hdd he;clear he
   have HR:=hdd hr
   rw [←hr] at h2
   have HH2:=hdd h2;clear hr hv h2
   have HAT:=hdd hat;clear hat
   have hlt:decide (n<E.ts.length)=false:=decide_eq_false (by omega)
   have HN:=hdd hn;clear hn
   go_enter Tryd.func43,Tryd.ntmps43
   rw [HE.o] at c4
   go_wp2_with fail
   go_quiet (fail)
   go_wp2_with fail
   go_end0
   have hfr:Fr (fun k=>k=b) W (((W.drewN nq).setCell ⟨b,4,none⟩ (.int .i64 7)).setCell ⟨b,5,none⟩ (.int .i64 (E.size:Int))):=(((Fr.refl _ _).drewN nq).setb 4 _).setb 5 _
   exact ⟨rfl,mod_PW HP.o hfr hit (by omega) (by rw [HH2.o]) (set_err (W:=W.drewN nq) HBLK.o 7 E.size {s with err:=7} rfl rfl HAT.o),hfr⟩
  |cons t r=>
   rw [hr] at h2
   obtain ⟨hn,ht,hr2⟩:=jz2 h2
   obtain ⟨g,o,hA,hg,hc⟩:=HPT.o.2 (by omega)
   obtain ⟨q0,q1,q2,q3⟩:=hc n hn
   rw [ht] at q0 q1 q2 q3
   have hv:(fail s).2= {s with err:=6}:=by simp [fail,hr,he]
   have hat:atOf E.size {s with err:=6}=t.pos:=by simp [atOf,hr]
   rw [hv]
   have HE:=hdd he;clear he
   have HR:=hdd hr;clear hr hv hr2 ht hc
   rw [←HR.o] at h2
   have HH2:=hdd h2;clear h2
   have HAT:=hdd hat;clear hat
   rw [hA] at c0
   have i1:(0:Int)≤(n:Int):=Int.natCast_nonneg _
   have i2:(n:Int)<(E.ts.length:Int):=by omega
   have HA:=hdd hA;clear hA
   go_enter Tryd.func43,Tryd.ntmps43
   rw [HE.o] at c4
   go_wp2_with fail
   go_quiet (fail)
   go_wp2_with fail
   go_upto_region 3 with fail
   obtain ⟨w2,hw2⟩: ∃u,(W.drewN nq).setCell ⟨b,4,none⟩ (.int .i64 6)=u:=⟨_,rfl⟩
   rw [hw2]
   have d0:w2.cell? ⟨b,0,none⟩=some (.slice (some ⟨g,o,none⟩) E.ts.length E.cap):=by rw [←hw2];exact (far_off (by decide)).trans c0
   have d1:w2.cell? ⟨b,1,none⟩=some (.int .i64 (n:Int)):=by rw [←hw2];exact (far_off (by decide)).trans c1
   have d3:w2.cell? ⟨g,o+n*4+3,none⟩=some (.int .i64 (t.pos:Int)):=by rw [←hw2];exact (jz0 (by omega)).trans q3
   have d5:w2.cell? ⟨b,5,none⟩=some (.int .i64 (atOf E.size s:Int)):=by rw [←hw2];exact (far_off (by decide)).trans c5
   have e5:w2.frozen? ⟨b,5,none⟩=false:=by rw [←hw2];exact jq1 (jx4 (w:=W.drewN nq) HBLK.o 4 _) 5
   have g0:(w2.setCell ⟨b,5,none⟩ (.int .i64 (t.pos:Int))).drew.cell? ⟨b,0,none⟩=some (.slice (some ⟨g,o,none⟩) E.ts.length E.cap):=by
    show (w2.setCell ⟨b,5,none⟩ (.int .i64 (t.pos:Int))).cell? ⟨b,0,none⟩=_
    exact (far_off (by decide)).trans d0
   have g1:(w2.setCell ⟨b,5,none⟩ (.int .i64 (t.pos:Int))).drew.cell? ⟨b,1,none⟩=some (.int .i64 (n:Int)):=by
    show (w2.setCell ⟨b,5,none⟩ (.int .i64 (t.pos:Int))).cell? ⟨b,1,none⟩=_
    exact (far_off (by decide)).trans d1
   have g3:(w2.setCell ⟨b,5,none⟩ (.int .i64 (t.pos:Int))).drew.cell? ⟨g,o+n*4+3,none⟩=some (.int .i64 (t.pos:Int)):=by
    show (w2.setCell ⟨b,5,none⟩ (.int .i64 (t.pos:Int))).cell? ⟨g,o+n*4+3,none⟩=_
    exact (jz0 (by omega)).trans d3
   have HW2:=hdd hw2
   clear hw2 c0 c1 q0 q1 q2 q3 c2 c4 c5 f4 f5
   go_region_held3 (fun w'=>w'.cell? ⟨b,0,none⟩=some (.slice (some ⟨g,o,none⟩) E.ts.length E.cap)∧w'.cell? ⟨b,1,none⟩=some (.int .i64 (n:Int))∧w'.cell? ⟨g,o+n*4+3,none⟩=some (.int .i64 (t.pos:Int))) (first|go_keep|(go_split_ands;refine ⟨?_,?_,?_⟩<;>first|assumption|exact d0|exact d1|exact d3|exact g0|exact g1|exact g3)) (fail)
   all_goals
    go_wp2_with fail
    rw [←HW2.o]
    have hfr:Fr (fun k=>k=b) W (((W.drewN (nq+1)).setCell ⟨b,4,none⟩ (.int .i64 6)).setCell ⟨b,5,none⟩ (.int .i64 (t.pos:Int))):=(((Fr.refl _ _).drewN (nq+1)).setb 4 _).setb 5 _
    exact bodyPost_ret (results_none rfl _ _ _) rfl ⟨rfl,mod_PW HP.o hfr hit (by omega) (by rw [HH2.o]) (set_err (W:=W.drewN (nq+1)) HBLK.o 6 t.pos {s with err:=6} rfl rfl HAT.o),hfr⟩
 ·have hv:(fail s).2=s:=by simp [fail,he]
  rw [hv]
  have HE:=hdd he;clear he hv
  go_enter Tryd.func43,Tryd.ntmps43
  have hb0:((s.err:Int) !=0)=true:=by rw [bne_iff_ne];have:=HE.o;omega
  go_wp2_with fail
  exact bodyPost_ret (results_none rfl _ _ _) rfl ⟨rfl,HP.o,Fr.refl _ _⟩
theorem is_any (E:Env) (b:Nat) (s:St) (x:Nat) (W:World) (h:PW E b s W):
  Calls Tryd.prog 44 #[.pointer (some ⟨b,0,none⟩),.int .i64 (x:Int)] W fun e w'=>e= .returned (.bool (isK x s))∧ ∃m,w'=W.drewN m:=by
 obtain ⟨n,h1,h2,c0,c1,c2,c3,c4,c5⟩:=h.cells
 have hl:=h.1
 have HP:=hdd h;clear h
 by_cases he:s.err=0
 ·cases hr:s.rest with
  |nil=>
   have hv:isK x s=false:=by simp [isK,hr]
   rw [hr] at h2
   have hn:=drop_nil h2 h1
   rw [hv]
   rw [he] at c4
   have HE:=hdd he;clear he
   have HR:=hdd hr;clear hr hv h2
   have hlt:decide (n<E.ts.length)=false:=decide_eq_false (by omega)
   have HN:=hdd hn;clear hn
   go_enter Tryd.func44,Tryd.ntmps44
   go_wp2_with fail
   go_quiet (fail)
   go_wp2_with fail
   go_ret
   exact ⟨rfl,_,rfl⟩
  |cons t r=>
   rw [hr] at h2
   obtain ⟨hn,ht,hr2⟩:=jz2 h2
   obtain ⟨g,o,hA,hg,hc⟩:=HP.o.2.2.2.1.2 (by omega)
   obtain ⟨q0,q1,q2,q3⟩:=hc n hn
   have hv:isK x s=(t.kind==x):=by simp [isK,hr,he]
   rw [hv]
   rw [ht] at q0 q1 q2 q3
   rw [he] at c4
   have HE:=hdd he;clear he
   have HR:=hdd hr;clear hr hv h2 hr2 ht hc
   rw [hA] at c0
   have i1:(0:Int)≤(n:Int):=Int.natCast_nonneg _
   have i2:(n:Int)<(E.ts.length:Int):=by omega
   have HA:=hdd hA;clear hA
   go_enter Tryd.func44,Tryd.ntmps44
   go_wp2_with fail
   go_quiet (fail)
   go_wp2_with fail
   go_ret
   exact ⟨ret_bool (by rw [Bool.eq_iff_iff];simp;omega),_,rfl⟩
 ·have hv:isK x s=false:=by simp [isK,he]
  rw [hv]
  have hb0:((s.err:Int)==0)=false:=beq_eq_false_iff_ne.2 (by omega)
  have HE:=hdd he;clear he hv
  go_enter Tryd.func44,Tryd.ntmps44
  go_wp2_with fail
  go_quiet (fail)
  go_wp2_with fail
  go_ret
  exact ⟨rfl,_,rfl⟩
def nd (x:Bytes):Prop:= ∀c r,x=c::r→isDigit c=false
theorem isK_any {k:Nat} {s:St} {t:Tok} {r:List Tok} (hr:s.rest=t::r) (he:s.err=0):isK k s=(t.kind==k):=by simp [isK,hr,he]
theorem jz3 (E:Env) (b:Nat) (s:St) (x:Bytes) (W:World) (h:PW E b s W) (hx:nd x):
  Calls Tryd.prog 76 #[.pointer (some ⟨b,0,none⟩),.string ⟨x.toArray⟩] W fun e w'=>e= .returned (.bool (isT x s))∧ ∃m,w'=W.drewN m:=by
 have hwt:=h.wts
 by_cases hk:isK 1 s=false∧isK 3 s=false
 ·have hv:isT x s=false:=by
   cases hi:isT x s with
   |false=>rfl
   |true=>
    obtain ⟨he,t,r,hr,ht⟩:=isT_err hi
    have hw:=hwt t (by rw [hr];exact List.mem_cons_self ..)
    rw [isK_any hr he,isK_any hr he] at hk
    rcases hw with ⟨k,_⟩|⟨_,c,r',h3,h4⟩|⟨k,_⟩
    ·rw [k] at hk;exact absurd hk.1 (by decide)
    ·rw [ht] at h3
     rw [hx c r' h3] at h4
     cases h4
    ·rw [k] at hk;exact absurd hk.2 (by decide)
  rw [hv]
  have HN:Hid (∀(k:Int) m,(k=1∨k=3)→Calls Tryd.prog 44 #[.pointer (some ⟨b,0,none⟩),.int .i64 k] (W.drewN m) fun e w'=>e= .returned (.bool false)∧ ∃k,w'=(W.drewN m).drewN k):=fun k m hk2=>by
   rcases hk2 with rfl|rfl
   ·have:=is_any E b s 1 _ (h.drewN m);rw [hk.1] at this;exact this
   ·have:=is_any E b s 3 _ (h.drewN m);rw [hk.2] at this;exact this
  clear h hv hk hwt hx
  go_enter Tryd.func76,Tryd.ntmps76
  go_wp2_with fail
  go_quiet ((go_at_call 44;exact Calls.quiet_of (HN.o _ _ (by decide))))
  go_wp2_with fail
  go_ret
  exact ⟨rfl,_,rfl⟩
 ·obtain ⟨k,hkk,hk13⟩: ∃k,isK k s=true∧((k=1)∨(k=3∧isK 1 s=false)):=by
   cases h1:isK 1 s with
   |true=>exact ⟨1,h1,.inl rfl⟩
   |false=>
    cases h3:isK 3 s with
    |true=>exact ⟨3,h3,.inr ⟨rfl,rfl⟩⟩
    |false=>exact absurd ⟨h1,h3⟩ hk
  obtain ⟨he,t,r,hr,ht⟩:=isK_err hkk
  have hv:isT x s=(t.text==x):=by simp [isT,hr,he]
  obtain ⟨n,h1,h2,c0,c1,c2,c3,c4,c5⟩:=h.cells
  have hl:=h.1
  rw [hr] at h2
  obtain ⟨hn,hti,hr2⟩:=jz2 h2
  obtain ⟨g,o,hA,hg,hc⟩:=h.2.2.2.1.2 (by omega)
  obtain ⟨q0,q1,q2,q3⟩:=hc n hn
  rw [hti] at q0 q1 q2 q3
  rw [hv]
  rw [hA] at c0
  have i1:(0:Int)≤(n:Int):=Int.natCast_nonneg _
  have i2:(n:Int)<(E.ts.length:Int):=by omega
  have HP:=hdd h;have HA:=hdd hA
  clear h hA h2 hr2 hti hc hv hwt hr ht hk he hx
  rcases hk13 with rfl|⟨rfl,h1f⟩
  ·have HN1:Hid (∀m,Calls Tryd.prog 44 #[.pointer (some ⟨b,0,none⟩),.int .i64 1] (W.drewN m) fun e w'=>e= .returned (.bool true)∧ ∃k,w'=(W.drewN m).drewN k):=fun m=>by have:=is_any E b s 1 _ (HP.o.drewN m);rw [hkk] at this;exact this
   clear hkk
   go_enter Tryd.func76,Tryd.ntmps76
   go_wp2_with fail
   go_quiet ((go_at_call 44;exact Calls.quiet_of (HN1.o _)))
   go_wp2_with fail
   go_ret
   exact ⟨rfl,_,rfl⟩
  ·have HN:Hid (∀(k:Int) m,(k=1∨k=3)→Calls Tryd.prog 44 #[.pointer (some ⟨b,0,none⟩),.int .i64 k] (W.drewN m) fun e w'=>e= .returned (.bool (decide (k=3)))∧ ∃k,w'=(W.drewN m).drewN k):=fun k m hk2=>by
    rcases hk2 with rfl|rfl
    ·have:=is_any E b s 1 _ (HP.o.drewN m);rw [h1f] at this;exact this
    ·have:=is_any E b s 3 _ (HP.o.drewN m);rw [hkk] at this;exact this
   have d1:decide ((1:Int)=3)=false:=by decide
   have d3:decide ((3:Int)=3)=true:=by decide
   clear hkk h1f
   go_enter Tryd.func76,Tryd.ntmps76
   go_wp2_with fail
   go_quiet ((go_at_call 44;exact Calls.quiet_of (HN.o _ _ (by decide))))
   go_wp2_with fail
   go_ret
   exact ⟨rfl,_,rfl⟩
def After (E:Env) (b:Nat) (s:St) (W w':World):Prop:=PW E b s w'∧Fr (fun k=>k=b) W w'
theorem After.trans {E:Env} {b:Nat} {s s':St} {W W1 W2:World} (h:After E b s W W1) (h2:After E b s' W1 W2):After E b s' W W2:=⟨h2.1,h.2.trans h2.2⟩
theorem After.start {E:Env} {b:Nat} {s:St} {W:World} (h:PW E b s W):After E b s W W:=⟨h,Fr.refl _ _⟩
theorem After.drewN {E:Env} {b:Nat} {s:St} {W W1:World} (h:After E b s W W1) (n:Nat):After E b s W (W1.drewN n):=⟨h.1.drewN n,h.2.drewN n⟩
theorem jx8 (E:Env) (b:Nat) (s:St) (x:Bytes) (W:World) (h:PW E b s W) (hx:nd x):
  Calls Tryd.prog 42 #[.pointer (some ⟨b,0,none⟩),.string ⟨x.toArray⟩] W fun e w'=>e= .returned (.bool (acc x s).1)∧After E b (acc x s).2 W w':=by
 cases hi:isT x s with
 |false=>
  have e:acc x s=(false,s):=by simp [acc,hi]
  rw [e]
  have HI:=hdd hi
  have HP:=hdd h;clear h hi e
  go_enter Tryd.func42,Tryd.ntmps42
  go_wp2_with fail
  refine (jz3 E b s x _ HP.o hx).mono ?_
  rw [HI.o]
  rintro e w1 ⟨rfl,m,rfl⟩
  go_wp2_with fail
  go_ret
  exact ⟨rfl,(After.start HP.o).drewN m⟩
 |true=>
  have e:acc x s=(true,{s with rest:=s.rest.tail}):=by simp [acc,hi]
  rw [e]
  obtain ⟨he,t,r,hr,ht⟩:=isT_err hi
  obtain ⟨_,hit,hbl,hpt,n,h1,h2,hblk⟩:=id h
  have c1:W.cell? ⟨b,1,none⟩=some (.int .i64 (n:Int)):=jq0 hblk 1
  have f1:W.frozen? ⟨b,1,none⟩=false:=jq1 hblk 1
  have hl:=h.1
  have hd:t::r=E.ts.drop n:=by rw [←hr];exact h2
  obtain ⟨hn,_,hr2⟩:=jz2 hd
  have HRR:Hid (s.rest.tail=E.ts.drop (n+1)):=by show _=_;rw [hr];exact hr2
  have HE:=hdd he
  have HI:=hdd hi
  have HP:=hdd h
  have HB:=hdd hblk
  clear e he hr ht h2 hd hr2 hi h hpt hblk
  go_enter Tryd.func42,Tryd.ntmps42
  go_wp2_with fail
  refine (jz3 E b s x _ HP.o hx).mono ?_
  rw [HI.o]
  rintro e w1 ⟨rfl,m,rfl⟩
  go_wp2_with fail
  go_ret
  have hfr:Fr (fun k=>k=b) W ((W.drewN m).setCell ⟨b,1,none⟩ (.int .i64 ((n:Int)+1))):=((Fr.refl _ _).drewN m).setb 1 _
  exact ⟨rfl,mod_PW HP.o hfr hit (by omega) HRR.o (set_next (W:=W.drewN m) HB.o HE.o),hfr⟩
theorem jx3 (E:Env) (b:Nat) (s:St) (x:Bytes) (W:World) (h:PW E b s W) (hx:nd x):
  Calls Tryd.prog 24 #[.pointer (some ⟨b,0,none⟩),.string ⟨x.toArray⟩] W fun e w'=>e= .returned (.tuple #[])∧After E b (expect [x] s).2 W w':=by
 have e0:(expect [x] s).2=if (acc x s).1 then (acc x s).2 else (fail (acc x s).2).2:=by
  show (Pr.bnd (acc x) (fun b=>if b then Pr.ret () else fail) s).2=_
  unfold Pr.bnd
  cases (acc x s).1<;>rfl
 obtain ⟨R,hR⟩: ∃R,(expect [x] s).2=R:=⟨_,rfl⟩
 rw [hR]
 rw [hR] at e0
 have HP:=hdd h
 clear h hR
 cases ha:(acc x s).1 with
 |true=>
  rw [ha,if_pos rfl] at e0
  have HR:=hdd e0;have HAA:=hdd ha
  clear e0 ha
  go_enter Tryd.func24,Tryd.ntmps24
  go_wp2_with fail
  refine (jx8 E b s x _ HP.o hx).mono ?_
  rw [HAA.o,←HR.o]
  rintro e w1 ⟨rfl,hA1⟩
  have HA1:=hdd hA1;clear hA1
  go_wp2_with fail
  go_end0
  exact ⟨rfl,HA1.o⟩
 |false=>
  rw [ha,if_neg (by decide)] at e0
  have HR:=hdd e0;have HAA:=hdd ha
  clear e0 ha
  go_enter Tryd.func24,Tryd.ntmps24
  go_wp2_with fail
  refine (jx8 E b s x _ HP.o hx).mono ?_
  rw [HAA.o]
  rintro e w1 ⟨rfl,hA1⟩
  have HA1:=hdd hA1;clear hA1
  go_wp2_with fail
  refine (fail_any E b _ _ HA1.o.1).mono ?_
  rw [←HR.o]
  rintro e w2 ⟨rfl,hA2⟩
  have HA2:=hdd hA2;clear hA2
  go_wp2_with fail
  go_end0
  exact ⟨rfl,HA1.o.trans HA2.o⟩
theorem PW.alloc {E:Env} {b:Nat} {s:St} {W:World} (h:PW E b s W) (o:Obj):PW E b s (W.alloc o):=h.fr (S:=fun _=>False) ((Fr.refl _ _).alloc o) (fun _ _ h=>h)
theorem After.alloc {E:Env} {b:Nat} {s:St} {W W1:World} (h:After E b s W W1) (o:Obj):After E b s W (W1.alloc o):=⟨h.1.alloc o,h.2.alloc o⟩
theorem PW.set {E:Env} {b:Nat} {s:St} {W:World} (h:PW E b s W) {q i:Nat} (hq:b<q) (u:Value):PW E b s (W.setCell ⟨q,i,none⟩ u):=
 h.fr (S:=fun k=>k=q) ((Fr.refl _ _).setb i u) (fun k hk e=>by omega)
theorem After.set {E:Env} {b:Nat} {s:St} {W W1:World} (h:After E b s W W1) {q i:Nat} (hq:W.heap.size≤q) (hb:b<q) (u:Value):After E b s W (W1.setCell ⟨q,i,none⟩ u):=
 ⟨h.1.set hb u,h.2.setCell (p:=⟨q,i,none⟩) (.inr hq) u⟩
theorem name_any (E:Env) (b:Nat) (s:St) (W:World) (h:PW E b s W):
  Calls Tryd.prog 25 #[.pointer (some ⟨b,0,none⟩)] W fun e w'=>e= .returned (.string ⟨(name s).1.toArray⟩)∧After E b (name s).2 W w':=by
 cases hi:isK 1 s with
 |false=>
  have e0:name s=([],(fail s).2):=name_no hi
  rw [e0]
  have HI:=hdd hi;have HP:=hdd h
  clear e0 hi h
  go_enter Tryd.func25,Tryd.ntmps25
  go_wp2_with fail
  refine (is_any E b s 1 _ HP.o).mono ?_
  rw [HI.o]
  rintro e w1 ⟨rfl,m,rfl⟩
  go_wp2_with fail
  refine (fail_any E b s _ (HP.o.drewN m)).mono ?_
  rintro e w2 ⟨rfl,hA⟩
  have HA:=hdd hA;clear hA
  go_wp2_with fail
  go_ret
  exact ⟨rfl,((After.start HP.o).drewN m).trans HA.o⟩
 |true=>
  obtain ⟨t,r,hr,hk,he,ht,ho⟩:=take_yes hi
  have e0:name s=(t.text,{s with rest:=r}):=by simp [name,Pr.bnd,Pr.ret,ht]
  rw [e0]
  obtain ⟨_,hit,hbl,hpt,n,h1,h2,hblk⟩:=id h
  have hl:=h.1
  have hd:t::r=E.ts.drop n:=by rw [←hr];exact h2
  obtain ⟨hn,hti,hr2⟩:=jz2 hd
  obtain ⟨g,o,hA,hg,hc⟩:=hpt.2 (by omega)
  obtain ⟨q0,q1,q2,q3⟩:=hc n hn
  rw [hti] at q0 q1 q2 q3
  have c1:W.cell? ⟨b,1,none⟩=some (.int .i64 (n:Int)):=jq0 hblk 1
  have f1:W.frozen? ⟨b,1,none⟩=false:=jq1 hblk 1
  have HBB:=hdd (set_next (s:=s) hblk he)
  have HI:=hdd hi;have HP:=hdd h;have HR:=hdd hr;have HR2:=hdd hr2;have HAD:=hdd hA
  clear e0 hi h hd h2 hblk hti hc ht ho hr hr2 hpt hA q0 q3 q2
  go_enter Tryd.func25,Tryd.ntmps25
  go_wp2_with fail
  refine (is_any E b s 1 _ HP.o).mono ?_
  rw [HI.o]
  rintro e w1 ⟨rfl,m,rfl⟩
  go_upto_region 5 with fail
  obtain ⟨w2,hw2⟩: ∃u,(W.drewN m).setCell ⟨b,1,none⟩ (.int .i64 ((n:Int)+1))=u:=⟨_,rfl⟩
  have hfr:Fr (fun k=>k=b) W w2:=by rw [←hw2];exact ((Fr.refl _ _).drewN m).setb 1 _
  have hbk:w2.heap[b]?=some (.cells (pcells E (n+1) {s with rest:=s.rest.tail}) 71 (0,0)):=by rw [←hw2];exact HBB.o
  have HA2:Hid (After E b {s with rest:=r} W w2):=by
   rw [HR.o] at hbk
   exact ⟨mod_PW HP.o hfr hit (by omega) HR2.o hbk,hfr⟩
  have c0:w2.cell? ⟨b,0,none⟩=some (.slice (some ⟨g,o,none⟩) E.ts.length E.cap):=by rw [←HAD.o];exact jq0 hbk 0
  have c1':w2.cell? ⟨b,1,none⟩=some (.int .i64 ((n:Int)+1)):=jq0 hbk 1
  have hgb:=hfr.block g (by omega) (by omega)
  have p1:=(World.cell?_of_block (a:=⟨g,o+n*4+1,none⟩) hgb).trans q1
  have hw1:IntKind.i64.wrap ((n:Int)+1-1)=n:=by rw [IntWalk.i64_in _ (by omega)];omega
  have i1:(0:Int)≤(n:Int):=Int.natCast_nonneg _
  have i2:(n:Int)<(E.ts.length:Int):=by omega
  rw [hw2]
  clear hfr hbk hgb hw2 c1 f1 HBB q1
  go_quiet (fail)
  go_wp2_with fail
  go_ret
  exact ⟨rfl,HA2.o.drewN _⟩
theorem number_any (E:Env) (b:Nat) (s:St) (W:World) (h:PW E b s W):
  Calls Tryd.prog 27 #[.pointer (some ⟨b,0,none⟩)] W fun e w'=>e= .returned (.int .i64 ((number s).1:Int))∧After E b (number s).2 W w':=by
 cases hi:isK 2 s with
 |false=>
  have e0:number s=(0,(fail s).2):=num_no hi
  rw [e0]
  have HI:=hdd hi;have HP:=hdd h
  clear e0 hi h
  go_enter Tryd.func27,Tryd.ntmps27
  go_wp2_with fail
  refine (is_any E b s 2 _ HP.o).mono ?_
  rw [HI.o]
  rintro e w1 ⟨rfl,m,rfl⟩
  go_wp2_with fail
  refine (fail_any E b s _ (HP.o.drewN m)).mono ?_
  rintro e w2 ⟨rfl,hA⟩
  have HA:=hdd hA;clear hA
  go_wp2_with fail
  go_ret
  exact ⟨rfl,((After.start HP.o).drewN m).trans HA.o⟩
 |true=>
  obtain ⟨t,r,hr,hk,he,ht,ho⟩:=take_yes hi
  have e0:number s=(t.n,{s with rest:=r}):=by simp [number,Pr.bnd,Pr.ret,ht]
  rw [e0]
  obtain ⟨_,hit,hbl,hpt,n,h1,h2,hblk⟩:=id h
  have hl:=h.1
  have hd:t::r=E.ts.drop n:=by rw [←hr];exact h2
  obtain ⟨hn,hti,hr2⟩:=jz2 hd
  obtain ⟨g,o,hA,hg,hc⟩:=hpt.2 (by omega)
  obtain ⟨q0,q1,q2,q3⟩:=hc n hn
  rw [hti] at q0 q1 q2 q3
  have c1:W.cell? ⟨b,1,none⟩=some (.int .i64 (n:Int)):=jq0 hblk 1
  have f1:W.frozen? ⟨b,1,none⟩=false:=jq1 hblk 1
  have HBB:=hdd (set_next (s:=s) hblk he)
  have HI:=hdd hi;have HP:=hdd h;have HR:=hdd hr;have HR2:=hdd hr2;have HAD:=hdd hA
  clear e0 hi h hd h2 hblk hti hc ht ho hr hr2 hpt hA q0 q3 q1
  go_enter Tryd.func27,Tryd.ntmps27
  go_wp2_with fail
  refine (is_any E b s 2 _ HP.o).mono ?_
  rw [HI.o]
  rintro e w1 ⟨rfl,m,rfl⟩
  go_upto_region 5 with fail
  obtain ⟨w2,hw2⟩: ∃u,(W.drewN m).setCell ⟨b,1,none⟩ (.int .i64 ((n:Int)+1))=u:=⟨_,rfl⟩
  have hfr:Fr (fun k=>k=b) W w2:=by rw [←hw2];exact ((Fr.refl _ _).drewN m).setb 1 _
  have hbk:w2.heap[b]?=some (.cells (pcells E (n+1) {s with rest:=s.rest.tail}) 71 (0,0)):=by rw [←hw2];exact HBB.o
  have HA2:Hid (After E b {s with rest:=r} W w2):=by
   rw [HR.o] at hbk
   exact ⟨mod_PW HP.o hfr hit (by omega) HR2.o hbk,hfr⟩
  have c0:w2.cell? ⟨b,0,none⟩=some (.slice (some ⟨g,o,none⟩) E.ts.length E.cap):=by rw [←HAD.o];exact jq0 hbk 0
  have c1':w2.cell? ⟨b,1,none⟩=some (.int .i64 ((n:Int)+1)):=jq0 hbk 1
  have hgb:=hfr.block g (by omega) (by omega)
  have p1:=(World.cell?_of_block (a:=⟨g,o+n*4+2,none⟩) hgb).trans q2
  have hw1:IntKind.i64.wrap ((n:Int)+1-1)=n:=by rw [IntWalk.i64_in _ (by omega)];omega
  have i1:(0:Int)≤(n:Int):=Int.natCast_nonneg _
  have i2:(n:Int)<(E.ts.length:Int):=by omega
  rw [hw2]
  clear hfr hbk hgb hw2 c1 f1 HBB q2
  go_quiet (fail)
  go_wp2_with fail
  go_ret
  exact ⟨rfl,HA2.o.drewN _⟩
end Go.Proofs.YtfaflipphkoiiaaDoor.Rp
namespace Go.Proofs.YtfaflipphkoiiaaDoor.Rp
open Go.RowKit Mem Pr
open Lx (Tok isDigit isLetter isSym)
theorem nd_of {x:Bytes} (h:(match x with| []=>true|c::_=>!isDigit c)=true):nd x:=fun c r e=>by subst e;simpa using h
theorem ratio_p1 (E:Env) (b:Nat) (s:St) (W:World) (h:PW E b s W) (n:Nat) (s1:St) (s2:St) (d:Nat) (s3:St) (h1:number s=(n,s1)) (h2:acc [47] s1=(true,s2)) (h3:number s2=(d,s3)):
  Calls Tryd.prog 49 #[.pointer (some ⟨b,0,none⟩)] W fun e w'=>e= .returned (.agg #[.int .i64 (n:Int),.int .i64 (d:Int)])∧After E b s3 W w':=by
 have hbl:=h.2.2.1
 have HP:=hdd h;clear h
 have H1:=hdd h1;clear h1
 have H2:=hdd h2;clear h2
 have H3:=hdd h3;clear h3
 go_enter Tryd.func49,Tryd.ntmps49
 go_wp2_with fail
 refine (number_any E b s _ ((After.start HP.o).alloc _).1).mono ?_
 rw [H1.o]
 rintro e w1 ⟨rfl,hA⟩
 have GR:Hid (w1.heap[W.heap.size]?=some (.cells #[.int .i64 0,.int .i64 0] 52 (0,0))):=hA.2.blk (jq5 (by simp)) (by omega)
 have GA:=hdd (((After.start HP.o).alloc _).trans hA)
 have hs1:W.heap.size<w1.heap.size:=by have:=hA.2.size;simp only [World.size_alloc] at this;omega
 clear hA
 revert GR GA;intro HR HA
 go_wp2_with fail
 refine (jx8 E b s1 [47] _ (HA.o.alloc _).1 (nd_of (by decide))).mono ?_
 rw [H2.o]
 rintro e w2 ⟨rfl,hA⟩
 have GR:Hid (w2.heap[W.heap.size]?=some (.cells #[.int .i64 0,.int .i64 0] 52 (0,0))):=hA.2.blk (jq9 HR.o _) (by omega)
 have Gr:Hid (w2.heap[w1.heap.size]?=some (.cells #[.int .i64 (n:Int),.int .i64 1] 52 (0,0))):=hA.2.blk (jq5 (by simp)) (by omega)
 have GA:=hdd ((HA.o.alloc _).trans hA)
 have hs2:W.heap.size<w2.heap.size:=by have:=hA.2.size;simp only [World.size_alloc] at this;omega
 clear hA
 clear HA HR
 revert GR Gr GA;intro HR Hr HA
 go_wp2_with fail
 refine (number_any E b s2 _ HA.o.1).mono ?_
 rw [H3.o]
 rintro e w3 ⟨rfl,hA⟩
 have GR:Hid (w3.heap[W.heap.size]?=some (.cells #[.int .i64 0,.int .i64 0] 52 (0,0))):=hA.2.blk HR.o (by omega)
 have Gr:Hid (w3.heap[w1.heap.size]?=some (.cells #[.int .i64 (n:Int),.int .i64 1] 52 (0,0))):=hA.2.blk Hr.o (by omega)
 have GA:=hdd (HA.o.trans hA)
 have hs3:W.heap.size<w3.heap.size:=by have:=hA.2.size;omega
 clear hA
 clear HA HR Hr
 revert GR Gr GA;intro HR Hr HA
 have kR_0:w3.cell? ⟨W.heap.size,0,none⟩=some (.int .i64 0):=jq0 HR.o 0
 have fR_0:w3.frozen? ⟨W.heap.size,0,none⟩=false:=jq1 HR.o 0
 have kR_1:w3.cell? ⟨W.heap.size,1,none⟩=some (.int .i64 0):=jq0 HR.o 1
 have fR_1:w3.frozen? ⟨W.heap.size,1,none⟩=false:=jq1 HR.o 1
 have kr_0:w3.cell? ⟨w1.heap.size,0,none⟩=some (.int .i64 (n:Int)):=jq0 Hr.o 0
 have fr_0:w3.frozen? ⟨w1.heap.size,0,none⟩=false:=jq1 Hr.o 0
 have kr_1:w3.cell? ⟨w1.heap.size,1,none⟩=some (.int .i64 1):=jq0 Hr.o 1
 have fr_1:w3.frozen? ⟨w1.heap.size,1,none⟩=false:=jq1 Hr.o 1
 go_wp2_with fail
 exact bodyPost_ret (v:= .agg #[.int .i64 (n:Int),.int .i64 (d:Int)]) (jq8 Tryd.results49 rfl (jj4 (cs:= [.int .i64 (n:Int),.int .i64 (d:Int)]) Tryd.underlying52 rfl (by kernel_rfl) (jx4 (jx4 (jq2 HR.o (by omega) (.int .i64 (d:Int))) 0 (.int .i64 (n:Int))) 1 (.int .i64 (d:Int))))) rfl ⟨rfl,(((HA.o.set (i:=1) (by omega) (by omega) (.int .i64 (d:Int))).set (i:=0) (Nat.le_refl _) hbl (.int .i64 (n:Int))).set (i:=1) (Nat.le_refl _) hbl (.int .i64 (d:Int)))⟩
theorem ratio_p2 (E:Env) (b:Nat) (s:St) (W:World) (h:PW E b s W) (n:Nat) (s1:St) (s2:St) (h1:number s=(n,s1)) (h2:acc [47] s1=(false,s2)):
  Calls Tryd.prog 49 #[.pointer (some ⟨b,0,none⟩)] W fun e w'=>e= .returned (.agg #[.int .i64 (n:Int),.int .i64 1])∧After E b s2 W w':=by
 have hbl:=h.2.2.1
 have HP:=hdd h;clear h
 have H1:=hdd h1;clear h1
 have H2:=hdd h2;clear h2
 go_enter Tryd.func49,Tryd.ntmps49
 go_wp2_with fail
 refine (number_any E b s _ ((After.start HP.o).alloc _).1).mono ?_
 rw [H1.o]
 rintro e w1 ⟨rfl,hA⟩
 have GR:Hid (w1.heap[W.heap.size]?=some (.cells #[.int .i64 0,.int .i64 0] 52 (0,0))):=hA.2.blk (jq5 (by simp)) (by omega)
 have GA:=hdd (((After.start HP.o).alloc _).trans hA)
 have hs1:W.heap.size<w1.heap.size:=by have:=hA.2.size;simp only [World.size_alloc] at this;omega
 clear hA
 revert GR GA;intro HR HA
 go_wp2_with fail
 refine (jx8 E b s1 [47] _ (HA.o.alloc _).1 (nd_of (by decide))).mono ?_
 rw [H2.o]
 rintro e w2 ⟨rfl,hA⟩
 have GR:Hid (w2.heap[W.heap.size]?=some (.cells #[.int .i64 0,.int .i64 0] 52 (0,0))):=hA.2.blk (jq9 HR.o _) (by omega)
 have Gr:Hid (w2.heap[w1.heap.size]?=some (.cells #[.int .i64 (n:Int),.int .i64 1] 52 (0,0))):=hA.2.blk (jq5 (by simp)) (by omega)
 have GA:=hdd ((HA.o.alloc _).trans hA)
 have hs2:W.heap.size<w2.heap.size:=by have:=hA.2.size;simp only [World.size_alloc] at this;omega
 clear hA
 clear HA HR
 revert GR Gr GA;intro HR Hr HA
 have kR_0:w2.cell? ⟨W.heap.size,0,none⟩=some (.int .i64 0):=jq0 HR.o 0
 have fR_0:w2.frozen? ⟨W.heap.size,0,none⟩=false:=jq1 HR.o 0
 have kR_1:w2.cell? ⟨W.heap.size,1,none⟩=some (.int .i64 0):=jq0 HR.o 1
 have fR_1:w2.frozen? ⟨W.heap.size,1,none⟩=false:=jq1 HR.o 1
 have kr_0:w2.cell? ⟨w1.heap.size,0,none⟩=some (.int .i64 (n:Int)):=jq0 Hr.o 0
 have fr_0:w2.frozen? ⟨w1.heap.size,0,none⟩=false:=jq1 Hr.o 0
 have kr_1:w2.cell? ⟨w1.heap.size,1,none⟩=some (.int .i64 1):=jq0 Hr.o 1
 have fr_1:w2.frozen? ⟨w1.heap.size,1,none⟩=false:=jq1 Hr.o 1
 go_wp2_with fail
 exact bodyPost_ret (v:= .agg #[.int .i64 (n:Int),.int .i64 1]) (jq8 Tryd.results49 rfl (jj4 (cs:= [.int .i64 (n:Int),.int .i64 1]) Tryd.underlying52 rfl (by kernel_rfl) (jx4 (jx4 HR.o 0 (.int .i64 (n:Int))) 1 (.int .i64 1)))) rfl ⟨rfl,((HA.o.set (i:=0) (Nat.le_refl _) hbl (.int .i64 (n:Int))).set (i:=1) (Nat.le_refl _) hbl (.int .i64 1))⟩
theorem ratio_any (E:Env) (b:Nat) (s:St) (W:World) (h:PW E b s W):
  Calls Tryd.prog 49 #[.pointer (some ⟨b,0,none⟩)] W fun e w'=>e= .returned (.agg #[.int .i64 ((Pr.ratio s).1.num:Int),.int .i64 ((Pr.ratio s).1.den:Int)])∧After E b (Pr.ratio s).2 W w':=by
 obtain ⟨n,s1,h1⟩: ∃x s',number s=(x,s'):=⟨_,_,rfl⟩
 obtain ⟨b2,s2,h2⟩: ∃x s',acc [47] s1=(x,s'):=⟨_,_,rfl⟩
 cases b2 with
 |true=>
  obtain ⟨d,s3,h3⟩: ∃x s',number s2=(x,s'):=⟨_,_,rfl⟩
  have hp:Pr.ratio s=((⟨n,d⟩:Ratio),s3):=(jq3 h1).trans ((jz1 h2).trans ((jq3 h3).trans (rfl)))
  rw [hp]
  exact ratio_p1 E b s W h n s1 s2 d s3 h1 h2 h3
 |false=>
  have hp:Pr.ratio s=((⟨n,1⟩:Ratio),s2):=(jq3 h1).trans ((jx9 h2).trans (rfl))
  rw [hp]
  exact ratio_p2 E b s W h n s1 s2 h1 h2
theorem date_p1 (E:Env) (b:Nat) (s:St) (W:World) (h:PW E b s W) (y:Nat) (s1:St) (u2:Unit) (s2:St) (m:Nat) (s3:St) (u4:Unit) (s4:St) (d:Nat) (s5:St) (h1:number s=(y,s1)) (h2:expect [[45]] s1=(u2,s2)) (h3:number s2=(m,s3)) (h4:expect [[45]] s3=(u4,s4)) (h5:number s4=(d,s5)):
  Calls Tryd.prog 26 #[.pointer (some ⟨b,0,none⟩)] W fun e w'=>e= .returned (.agg #[.int .i64 (y:Int),.int .i64 (m:Int),.int .i64 (d:Int)])∧After E b s5 W w':=by
 have hbl:=h.2.2.1
 have HP:=hdd h;clear h
 have H1:=hdd h1;clear h1
 have H2:=hdd h2;clear h2
 have H3:=hdd h3;clear h3
 have H4:=hdd h4;clear h4
 have H5:=hdd h5;clear h5
 go_enter Tryd.func26,Tryd.ntmps26
 go_wp2_with fail
 refine (number_any E b s _ (((After.start HP.o).alloc _).alloc _).1).mono ?_
 rw [H1.o]
 rintro e w1 ⟨rfl,hA⟩
 have GR:Hid (w1.heap[W.heap.size]?=some (.cells #[.int .i64 0,.int .i64 0,.int .i64 0] 24 (0,0))):=hA.2.blk (jq9 (jq5 (by simp)) _) (by omega)
 have Gc:Hid (w1.heap[W.heap.size+1]?=some (.cells #[.int .i64 0,.int .i64 0,.int .i64 0] 24 (0,0))):=hA.2.blk (jq5 (by simp)) (by omega)
 have GA:=hdd ((((After.start HP.o).alloc _).alloc _).trans hA)
 have hs1:W.heap.size<w1.heap.size:=by have:=hA.2.size;simp only [World.size_alloc] at this;omega
 clear hA
 revert GR Gc GA;intro HR Hc HA
 have kc_0:w1.cell? ⟨W.heap.size+1,0,none⟩=some (.int .i64 0):=jq0 Hc.o 0
 have fc_0:w1.frozen? ⟨W.heap.size+1,0,none⟩=false:=jq1 Hc.o 0
 go_wp2_with fail
 refine (jx3 E b s1 [45] _ (HA.o.set (i:=0) (by omega) (by omega) (.int .i64 (y:Int))).1 (nd_of (by decide))).mono ?_
 rw [H2.o]
 rintro e w2 ⟨rfl,hA⟩
 have GR:Hid (w2.heap[W.heap.size]?=some (.cells #[.int .i64 0,.int .i64 0,.int .i64 0] 24 (0,0))):=hA.2.blk (jq2 HR.o (by omega) (.int .i64 (y:Int))) (by omega)
 have Gc:Hid (w2.heap[W.heap.size+1]?=some (.cells #[.int .i64 (y:Int),.int .i64 0,.int .i64 0] 24 (0,0))):=hA.2.blk (jx4 Hc.o 0 (.int .i64 (y:Int))) (by omega)
 have GA:=hdd ((HA.o.set (i:=0) (by omega) (by omega) (.int .i64 (y:Int))).trans hA)
 have hs2:W.heap.size<w2.heap.size:=by have:=hA.2.size;simp only [World.size_setCell] at this;omega
 clear hA
 try clear kc_0 fc_0
 clear HA HR Hc
 revert GR Gc GA;intro HR Hc HA
 go_wp2_with fail
 refine (number_any E b s2 _ HA.o.1).mono ?_
 rw [H3.o]
 rintro e w3 ⟨rfl,hA⟩
 have GR:Hid (w3.heap[W.heap.size]?=some (.cells #[.int .i64 0,.int .i64 0,.int .i64 0] 24 (0,0))):=hA.2.blk HR.o (by omega)
 have Gc:Hid (w3.heap[W.heap.size+1]?=some (.cells #[.int .i64 (y:Int),.int .i64 0,.int .i64 0] 24 (0,0))):=hA.2.blk Hc.o (by omega)
 have GA:=hdd (HA.o.trans hA)
 have hs3:W.heap.size<w3.heap.size:=by have:=hA.2.size;omega
 clear hA
 clear HA HR Hc
 revert GR Gc GA;intro HR Hc HA
 have kc_1:w3.cell? ⟨W.heap.size+1,1,none⟩=some (.int .i64 0):=jq0 Hc.o 1
 have fc_1:w3.frozen? ⟨W.heap.size+1,1,none⟩=false:=jq1 Hc.o 1
 go_wp2_with fail
 refine (jx3 E b s3 [45] _ (HA.o.set (i:=1) (by omega) (by omega) (.int .i64 (m:Int))).1 (nd_of (by decide))).mono ?_
 rw [H4.o]
 rintro e w4 ⟨rfl,hA⟩
 have GR:Hid (w4.heap[W.heap.size]?=some (.cells #[.int .i64 0,.int .i64 0,.int .i64 0] 24 (0,0))):=hA.2.blk (jq2 HR.o (by omega) (.int .i64 (m:Int))) (by omega)
 have Gc:Hid (w4.heap[W.heap.size+1]?=some (.cells #[.int .i64 (y:Int),.int .i64 (m:Int),.int .i64 0] 24 (0,0))):=hA.2.blk (jx4 Hc.o 1 (.int .i64 (m:Int))) (by omega)
 have GA:=hdd ((HA.o.set (i:=1) (by omega) (by omega) (.int .i64 (m:Int))).trans hA)
 have hs4:W.heap.size<w4.heap.size:=by have:=hA.2.size;simp only [World.size_setCell] at this;omega
 clear hA
 try clear kc_1 fc_1
 clear HA HR Hc
 revert GR Gc GA;intro HR Hc HA
 go_wp2_with fail
 refine (number_any E b s4 _ HA.o.1).mono ?_
 rw [H5.o]
 rintro e w5 ⟨rfl,hA⟩
 have GR:Hid (w5.heap[W.heap.size]?=some (.cells #[.int .i64 0,.int .i64 0,.int .i64 0] 24 (0,0))):=hA.2.blk HR.o (by omega)
 have Gc:Hid (w5.heap[W.heap.size+1]?=some (.cells #[.int .i64 (y:Int),.int .i64 (m:Int),.int .i64 0] 24 (0,0))):=hA.2.blk Hc.o (by omega)
 have GA:=hdd (HA.o.trans hA)
 have hs5:W.heap.size<w5.heap.size:=by have:=hA.2.size;omega
 clear hA
 clear HA HR Hc
 revert GR Gc GA;intro HR Hc HA
 have kR_0:w5.cell? ⟨W.heap.size,0,none⟩=some (.int .i64 0):=jq0 HR.o 0
 have fR_0:w5.frozen? ⟨W.heap.size,0,none⟩=false:=jq1 HR.o 0
 have kR_1:w5.cell? ⟨W.heap.size,1,none⟩=some (.int .i64 0):=jq0 HR.o 1
 have fR_1:w5.frozen? ⟨W.heap.size,1,none⟩=false:=jq1 HR.o 1
 have kR_2:w5.cell? ⟨W.heap.size,2,none⟩=some (.int .i64 0):=jq0 HR.o 2
 have fR_2:w5.frozen? ⟨W.heap.size,2,none⟩=false:=jq1 HR.o 2
 have kc_0:w5.cell? ⟨W.heap.size+1,0,none⟩=some (.int .i64 (y:Int)):=jq0 Hc.o 0
 have fc_0:w5.frozen? ⟨W.heap.size+1,0,none⟩=false:=jq1 Hc.o 0
 have kc_1:w5.cell? ⟨W.heap.size+1,1,none⟩=some (.int .i64 (m:Int)):=jq0 Hc.o 1
 have fc_1:w5.frozen? ⟨W.heap.size+1,1,none⟩=false:=jq1 Hc.o 1
 have kc_2:w5.cell? ⟨W.heap.size+1,2,none⟩=some (.int .i64 0):=jq0 Hc.o 2
 have fc_2:w5.frozen? ⟨W.heap.size+1,2,none⟩=false:=jq1 Hc.o 2
 go_wp2_with fail
 exact bodyPost_ret (v:= .agg #[.int .i64 (y:Int),.int .i64 (m:Int),.int .i64 (d:Int)]) (jq8 Tryd.results26 rfl (jj4 (cs:= [.int .i64 (y:Int),.int .i64 (m:Int),.int .i64 (d:Int)]) Tryd.underlying24 rfl (by kernel_rfl) (jx4 (jx4 (jx4 (jq2 HR.o (by omega) (.int .i64 (d:Int))) 0 (.int .i64 (y:Int))) 1 (.int .i64 (m:Int))) 2 (.int .i64 (d:Int))))) rfl ⟨rfl,((((HA.o.set (i:=2) (by omega) (by omega) (.int .i64 (d:Int))).set (i:=0) (Nat.le_refl _) hbl (.int .i64 (y:Int))).set (i:=1) (Nat.le_refl _) hbl (.int .i64 (m:Int))).set (i:=2) (Nat.le_refl _) hbl (.int .i64 (d:Int)))⟩
theorem date_any (E:Env) (b:Nat) (s:St) (W:World) (h:PW E b s W):
  Calls Tryd.prog 26 #[.pointer (some ⟨b,0,none⟩)] W fun e w'=>e= .returned (.agg #[.int .i64 ((Pr.date s).1.y:Int),.int .i64 ((Pr.date s).1.m:Int),.int .i64 ((Pr.date s).1.d:Int)])∧After E b (Pr.date s).2 W w':=by
 obtain ⟨y,s1,h1⟩: ∃x s',number s=(x,s'):=⟨_,_,rfl⟩
 obtain ⟨u2,s2,h2⟩: ∃x s',expect [[45]] s1=(x,s'):=⟨_,_,rfl⟩
 obtain ⟨m,s3,h3⟩: ∃x s',number s2=(x,s'):=⟨_,_,rfl⟩
 obtain ⟨u4,s4,h4⟩: ∃x s',expect [[45]] s3=(x,s'):=⟨_,_,rfl⟩
 obtain ⟨d,s5,h5⟩: ∃x s',number s4=(x,s'):=⟨_,_,rfl⟩
 have hp:Pr.date s=((⟨y,m,d⟩:Civil),s5):=(jq3 h1).trans ((jx1 h2).trans ((jq3 h3).trans ((jx1 h4).trans ((jq3 h5).trans (rfl)))))
 rw [hp]
 exact date_p1 E b s W h y s1 u2 s2 m s3 u4 s4 d s5 h1 h2 h3 h4 h5
theorem days_p1 (E:Env) (b:Nat) (s:St) (W:World) (h:PW E b s W) (n:Nat) (bb:Bool) (s1:St) (u2:Unit) (s2:St) (h1:acc [98,117,115,105,110,101,115,115] s=(bb,s1)) (h2:expect [[100,97,121,115]] s1=(u2,s2)):
  Calls Tryd.prog 48 #[.pointer (some ⟨b,0,none⟩),.int .i64 (n:Int)] W fun e w'=>e= .returned (.agg #[.int .i64 (n:Int),.bool bb,.string ⟨#[]⟩])∧After E b s2 W w':=by
 have hbl:=h.2.2.1
 have HP:=hdd h;clear h
 have H1:=hdd h1;clear h1
 have H2:=hdd h2;clear h2
 go_enter Tryd.func48,Tryd.ntmps48
 go_wp2_with fail
 refine (jx8 E b s [98,117,115,105,110,101,115,115] _ ((After.start HP.o).alloc _).1 (nd_of (by decide))).mono ?_
 rw [H1.o]
 rintro e w1 ⟨rfl,hA⟩
 have GR:Hid (w1.heap[W.heap.size]?=some (.cells #[.int .i64 0,.bool false,.string ⟨#[]⟩] 49 (0,0))):=hA.2.blk (jq5 (by simp)) (by omega)
 have GA:=hdd (((After.start HP.o).alloc _).trans hA)
 have hs1:W.heap.size<w1.heap.size:=by have:=hA.2.size;simp only [World.size_alloc] at this;omega
 clear hA
 revert GR GA;intro HR HA
 go_wp2_with fail
 refine (jx3 E b s1 [100,97,121,115] _ (HA.o.alloc _).1 (nd_of (by decide))).mono ?_
 rw [H2.o]
 rintro e w2 ⟨rfl,hA⟩
 have GR:Hid (w2.heap[W.heap.size]?=some (.cells #[.int .i64 0,.bool false,.string ⟨#[]⟩] 49 (0,0))):=hA.2.blk (jq9 HR.o _) (by omega)
 have Gp:Hid (w2.heap[w1.heap.size]?=some (.cells #[.int .i64 (n:Int),.bool bb,.string ⟨#[]⟩] 49 (0,0))):=hA.2.blk (jq5 (by simp)) (by omega)
 have GA:=hdd ((HA.o.alloc _).trans hA)
 have hs2:W.heap.size<w2.heap.size:=by have:=hA.2.size;simp only [World.size_alloc] at this;omega
 clear hA
 clear HA HR
 revert GR Gp GA;intro HR Hp HA
 have kR_0:w2.cell? ⟨W.heap.size,0,none⟩=some (.int .i64 0):=jq0 HR.o 0
 have fR_0:w2.frozen? ⟨W.heap.size,0,none⟩=false:=jq1 HR.o 0
 have kR_1:w2.cell? ⟨W.heap.size,1,none⟩=some (.bool false):=jq0 HR.o 1
 have fR_1:w2.frozen? ⟨W.heap.size,1,none⟩=false:=jq1 HR.o 1
 have kR_2:w2.cell? ⟨W.heap.size,2,none⟩=some (.string ⟨#[]⟩):=jq0 HR.o 2
 have fR_2:w2.frozen? ⟨W.heap.size,2,none⟩=false:=jq1 HR.o 2
 have kp_0:w2.cell? ⟨w1.heap.size,0,none⟩=some (.int .i64 (n:Int)):=jq0 Hp.o 0
 have fp_0:w2.frozen? ⟨w1.heap.size,0,none⟩=false:=jq1 Hp.o 0
 have kp_1:w2.cell? ⟨w1.heap.size,1,none⟩=some (.bool bb):=jq0 Hp.o 1
 have fp_1:w2.frozen? ⟨w1.heap.size,1,none⟩=false:=jq1 Hp.o 1
 have kp_2:w2.cell? ⟨w1.heap.size,2,none⟩=some (.string ⟨#[]⟩):=jq0 Hp.o 2
 have fp_2:w2.frozen? ⟨w1.heap.size,2,none⟩=false:=jq1 Hp.o 2
 go_wp2_with fail
 exact bodyPost_ret (v:= .agg #[.int .i64 (n:Int),.bool bb,.string ⟨#[]⟩]) (jq8 Tryd.results48 rfl (jj4 (cs:= [.int .i64 (n:Int),.bool bb,.string ⟨#[]⟩]) Tryd.underlying49 rfl (by kernel_rfl) (jx4 (jx4 (jx4 HR.o 0 (.int .i64 (n:Int))) 1 (.bool bb)) 2 (.string ⟨#[]⟩)))) rfl ⟨rfl,(((HA.o.set (i:=0) (Nat.le_refl _) hbl (.int .i64 (n:Int))).set (i:=1) (Nat.le_refl _) hbl (.bool bb)).set (i:=2) (Nat.le_refl _) hbl (.string ⟨#[]⟩))⟩
theorem days_any (E:Env) (b:Nat) (s:St) (W:World) (h:PW E b s W) (n:Nat):
  Calls Tryd.prog 48 #[.pointer (some ⟨b,0,none⟩),.int .i64 (n:Int)] W fun e w'=>e= .returned (.agg #[.int .i64 ((rdays n s).1.days:Int),.bool (rdays n s).1.bus,.string ⟨(rdays n s).1.name.toArray⟩])∧After E b (rdays n s).2 W w':=by
 obtain ⟨bb,s1,h1⟩: ∃x s',acc [98,117,115,105,110,101,115,115] s=(x,s'):=⟨_,_,rfl⟩
 obtain ⟨u2,s2,h2⟩: ∃x s',expect [[100,97,121,115]] s1=(x,s'):=⟨_,_,rfl⟩
 have hp:rdays n s=((⟨n,bb,[]⟩:Span),s2):=(jq3 h1).trans ((jx1 h2).trans (rfl))
 rw [hp]
 exact days_p1 E b s W h n bb s1 u2 s2 h1 h2
end Go.Proofs.YtfaflipphkoiiaaDoor.Rp
namespace Go.Proofs.YtfaflipphkoiiaaDoor.Rp
open Go.RowKit Mem Pr
open Lx (Tok isDigit isLetter isSym)
theorem span_any (E:Env) (b:Nat) (s:St) (W:World) (h:PW E b s W):
  Calls Tryd.prog 77 #[.pointer (some ⟨b,0,none⟩)] W fun e w'=>e= .returned (.agg #[.int .i64 ((rspan s).1.days:Int),.bool (rspan s).1.bus,.string ⟨(rspan s).1.name.toArray⟩])∧After E b (rspan s).2 W w':=by
 have hbl:=h.2.2.1
 have HP:=hdd h;clear h
 cases hi:isK 2 s with
 |true=>
  obtain ⟨n,s1,h1⟩: ∃x s',number s=(x,s'):=⟨_,_,rfl⟩
  obtain ⟨d,s2,h2⟩: ∃x s',rdays n s1=(x,s'):=⟨_,_,rfl⟩
  have hp:rspan s=(d,s2):=by unfold rspan;rw [if_pos hi,jq3 h1,h2]
  rw [hp]
  have HI:=hdd hi;have H1:=hdd h1;have H2:=hdd h2
  clear hi h1 h2 hp
  go_enter Tryd.func77,Tryd.ntmps77
  go_wp2_with fail
  refine (is_any E b s 2 _ ((After.start HP.o).alloc _).1).mono ?_
  rw [HI.o]
  rintro e w0 ⟨rfl,m,rfl⟩
  go_wp2_with fail
  refine (number_any E b s _ (((After.start HP.o).alloc _).drewN m).1).mono ?_
  rw [H1.o]
  rintro e w1 ⟨rfl,hA⟩
  have HR:Hid (w1.heap[W.heap.size]?=some (.cells #[.int .i64 0,.bool false,.string ⟨#[]⟩] 49 (0,0))):=hA.2.blk (jx2 (jq5 (by simp)) m) (by omega)
  have HA:=hdd ((((After.start HP.o).alloc _).drewN m).trans hA)
  clear hA
  go_wp2_with fail
  refine (days_any E b s1 _ HA.o.1 n).mono ?_
  rw [H2.o]
  rintro e w2 ⟨rfl,hA⟩
  have HR2:Hid (w2.heap[W.heap.size]?=some (.cells #[.int .i64 0,.bool false,.string ⟨#[]⟩] 49 (0,0))):=hA.2.blk HR.o (by omega)
  have HA2:=hdd (HA.o.trans hA)
  clear hA HR HA
  have k0:w2.cell? ⟨W.heap.size,0,none⟩=some (.int .i64 0):=jq0 HR2.o 0
  have f0:w2.frozen? ⟨W.heap.size,0,none⟩=false:=jq1 HR2.o 0
  have k1:w2.cell? ⟨W.heap.size,1,none⟩=some (.bool false):=jq0 HR2.o 1
  have f1:w2.frozen? ⟨W.heap.size,1,none⟩=false:=jq1 HR2.o 1
  have k2:w2.cell? ⟨W.heap.size,2,none⟩=some (.string ⟨#[]⟩):=jq0 HR2.o 2
  have f2:w2.frozen? ⟨W.heap.size,2,none⟩=false:=jq1 HR2.o 2
  go_wp2_with fail
  exact bodyPost_ret (v:= .agg #[.int .i64 (d.days:Int),.bool d.bus,.string ⟨d.name.toArray⟩]) (jq8 Tryd.results77 rfl (jj4 (cs:= [.int .i64 (d.days:Int),.bool d.bus,.string ⟨d.name.toArray⟩]) Tryd.underlying49 rfl (by kernel_rfl) (jx4 (jx4 (jx4 HR2.o 0 (.int .i64 (d.days:Int))) 1 (.bool d.bus)) 2 (.string ⟨d.name.toArray⟩)))) rfl ⟨rfl,((HA2.o.set (i:=0) (by omega) (by omega) (.int .i64 (d.days:Int))).set (i:=1) (by omega) (by omega) (.bool d.bus)).set (i:=2) (by omega) (by omega) (.string ⟨d.name.toArray⟩)⟩
 |false=>
  obtain ⟨n,s2,h1⟩: ∃x s',name s=(x,s'):=⟨_,_,rfl⟩
  have hp:rspan s=(⟨0,false,n⟩,s2):=by unfold rspan;rw [if_neg (by rw [hi];decide),jq3 h1];rfl
  rw [hp]
  have HI:=hdd hi;have H1:=hdd h1
  clear hi h1 hp
  go_enter Tryd.func77,Tryd.ntmps77
  go_wp2_with fail
  refine (is_any E b s 2 _ ((After.start HP.o).alloc _).1).mono ?_
  rw [HI.o]
  rintro e w0 ⟨rfl,m,rfl⟩
  go_wp2_with fail
  refine (name_any E b s _ (((After.start HP.o).alloc _).drewN m).1).mono ?_
  rw [H1.o]
  rintro e w2 ⟨rfl,hA⟩
  have HR2:Hid (w2.heap[W.heap.size]?=some (.cells #[.int .i64 0,.bool false,.string ⟨#[]⟩] 49 (0,0))):=hA.2.blk (jx2 (jq5 (by simp)) m) (by omega)
  have HA2:=hdd ((((After.start HP.o).alloc _).drewN m).trans hA)
  clear hA
  have k0:w2.cell? ⟨W.heap.size,0,none⟩=some (.int .i64 0):=jq0 HR2.o 0
  have f0:w2.frozen? ⟨W.heap.size,0,none⟩=false:=jq1 HR2.o 0
  have k1:w2.cell? ⟨W.heap.size,1,none⟩=some (.bool false):=jq0 HR2.o 1
  have f1:w2.frozen? ⟨W.heap.size,1,none⟩=false:=jq1 HR2.o 1
  have k2:w2.cell? ⟨W.heap.size,2,none⟩=some (.string ⟨#[]⟩):=jq0 HR2.o 2
  have f2:w2.frozen? ⟨W.heap.size,2,none⟩=false:=jq1 HR2.o 2
  go_wp2_with fail
  exact bodyPost_ret (v:= .agg #[.int .i64 0,.bool false,.string ⟨n.toArray⟩]) (jq8 Tryd.results77 rfl (jj4 (cs:= [.int .i64 0,.bool false,.string ⟨n.toArray⟩]) Tryd.underlying49 rfl (by kernel_rfl) (jx4 (jx4 (jx4 HR2.o 0 (.int .i64 0)) 1 (.bool false)) 2 (.string ⟨n.toArray⟩)))) rfl ⟨rfl,((HA2.o.set (i:=0) (by omega) (by omega) (.int .i64 0)).set (i:=1) (by omega) (by omega) (.bool false)).set (i:=2) (by omega) (by omega) (.string ⟨n.toArray⟩)⟩
theorem anyOf_yes: ∀(l:List Bytes) (i j:Nat) (x:Bytes) (s:St),(∀(k:Nat) (y:Bytes),l[k]?=some y→k<j→isT y s=false)→l[j]?=some x→isT x s=true→anyOf l i s=(i+j,{s with rest:=s.rest.tail})
 | [],i,j,x,s,_,h,_=>by simp at h
 |y::l,i,0,x,s,_,h,ht=>by
  have h:y=x:=by simpa using h
  subst h
  show Pr.bnd (acc y) (fun b=>if b then Pr.ret i else anyOf l (i+1)) s=_
  rw [jq3 (jj8 ht)];rfl
 |y::l,i,j+1,x,s,hk,h,ht=>by
  show Pr.bnd (acc y) (fun b=>if b then Pr.ret i else anyOf l (i+1)) s=_
  rw [jq3 (kq2 (hk 0 y rfl (Nat.succ_pos _))),if_neg (by decide),anyOf_yes l (i+1) j x s (fun k z hz hl=>hk (k+1) z (by simpa using hz) (by omega)) (by simpa using h) ht]
  rw [show i+1+j=i+(j+1) by omega]
theorem anyOf_no: ∀(l:List Bytes) (i:Nat) (s:St),(∀(k:Nat) (y:Bytes),l[k]?=some y→isT y s=false)→anyOf l i s=(0,(fail s).2)
 | [],i,s,_=>rfl
 |y::l,i,s,h=>by
  show Pr.bnd (acc y) (fun b=>if b then Pr.ret i else anyOf l (i+1)) s=_
  rw [jq3 (kq2 (h 0 y rfl)),if_neg (by decide)]
  exact anyOf_no l (i+1) s (fun k z hz=>h (k+1) z (by simpa using hz))
def statusW:List Bytes:= [[],[115,116,97,114,116,101,100],[100,111,110,101],[102,97,105,108,101,100],[118,111,105,100]]
theorem nd_day: ∀(k:Nat) (x:Bytes),(wdays)[k]?=some x→0≤k→nd x:=by
 intro k x h ha
 have hk:k<7:=(List.getElem?_eq_some_iff.1 h).1
 have hc:k=0∨k=1∨k=2∨k=3∨k=4∨k=5∨k=6:=by omega
 rcases hc with rfl|rfl|rfl|rfl|rfl|rfl|rfl<;>first|omega|(injection h with h;subst h;exact nd_of (by decide))
theorem day_any (E:Env) (b:Nat) (s:St) (W:World) (h:PW E b s W):
  Calls Tryd.prog 46 #[.pointer (some ⟨b,0,none⟩)] W fun e w'=>e= .returned (.int .i64 ((weekday s).1:Int))∧After E b (weekday s).2 W w':=by
 have hbl:=h.2.2.1
 obtain ⟨g,HG⟩: ∃q,Hid (W.heap.size=q):=⟨_,rfl⟩
 obtain ⟨w0,hw0⟩: ∃u,W.alloc (.cells ((wdays).map sv).toArray 9)=u:=⟨_,rfl⟩
 have HB0:Hid (w0.heap[g]?=some (.cells ((wdays).map sv).toArray 9 (0,0))):=by rw [←hw0];exact jq5 HG.o.symm
 have HA0:Hid (After E b s W w0):=by rw [←hw0];exact (After.start h).alloc _
 have HBG:Hid (b≠g):=by show _≠_;have:=HG.o;omega
 have HW0:Hid (W.alloc (.cells #[.string ⟨[109,111,110].toArray⟩,.string ⟨[116,117,101].toArray⟩,.string ⟨[119,101,100].toArray⟩,.string ⟨[116,104,117].toArray⟩,.string ⟨[102,114,105].toArray⟩,.string ⟨[115,97,116].toArray⟩,.string ⟨[115,117,110].toArray⟩] 9)=w0):=hw0
 clear h hw0
 go_enter Tryd.func46,Tryd.ntmps46
 go_upto_region 2 with fail
 rw [HW0.o,HG.o]
 clear HW0
 go_wp2_with fail
 go_loopw [4] (fun i wr=> ∃j:Nat,i= .int .i64 j∧0≤j∧j≤7∧Hid (∀k x,(wdays)[k]?=some x→0≤k→k<j→isT x s=false)∧Hid (After E b s W wr)∧Hid (wr.heap[g]?=some (.cells ((wdays).map sv).toArray 9 (0,0)))) (fun i _=>7-(intOf i).toNat)
 case atStart=>exact ⟨0,rfl,Nat.le_refl _,by decide,hdd (fun k x hx h1 h2=>by omega),HA0,HB0⟩
 case round=>
  obtain ⟨j,rfl,hja,hj,HPRE,HA,HB⟩:=hrel
  have i1:(0:Int)≤(j:Int):=Int.natCast_nonneg _
  by_cases hlt:j<7
  ·have i2:(j:Int)<7:=by omega
   have i3:(j:Int)<7:=by omega
   obtain ⟨x,hx⟩: ∃x,(wdays)[j]?=some x:=⟨_,List.getElem?_eq_getElem hlt⟩
   have c0:wr.cell? ⟨g,j,none⟩=some (.string ⟨x.toArray⟩):=(jq0 HB.o j).trans (by rw [List.getElem?_toArray,List.getElem?_map,hx];rfl)
   have HND:=hdd (nd_day j x hx hja)
   have HX:=hdd hx
   cases hi:isT x s with
   |true=>
    have HR:Hid (weekday s=(j,{s with rest:=s.rest.tail})):=by
     show _=_
     have:=anyOf_yes wdays 0 j x s (fun k y hy hl=>HPRE.o k y hy (Nat.zero_le _) hl) HX.o hi
     rw [Nat.zero_add] at this
     exact this
    have HAC:=hdd (jj8 hi)
    clear hi hx
    go_wp2_with fail
    refine (jx8 E b s x _ HA.o.1 HND.o).mono ?_
    rw [HAC.o]
    rintro e w1 ⟨rfl,hA1⟩
    have HA1:=hdd (HA.o.trans hA1);clear hA1
    go_wp2_with fail
    go_ret
    exact ⟨ret_int (by rw [HR.o]),by rw [HR.o];exact HA1.o⟩
   |false=>
    have HI:=hdd hi
    have HAC:=hdd (kq2 hi)
    clear hi hx
    go_wp2_with fail
    refine (jx8 E b s x _ HA.o.1 HND.o).mono ?_
    rw [HAC.o]
    rintro e w1 ⟨rfl,hA1⟩
    have HB1:Hid (w1.heap[g]?=some (.cells ((wdays).map sv).toArray 9 (0,0))):=hA1.2.blk HB.o (fun e=>HBG.o e.symm)
    have HA1:=hdd (HA.o.trans hA1);clear hA1
    go_wp2_with fail
    go_roundw
    case rel=>exact ⟨j+1,by go_num,by omega,by omega,hdd (fun k y hy h1 h2=>by
     rcases Nat.lt_succ_iff_lt_or_eq.1 h2 with h3|rfl
     ·exact HPRE.o k y hy h1 h3
     ·rw [HX.o] at hy;injection hy with hy;subst hy;exact HI.o),HA1,HB1⟩
    case measure=>simp [intOf];omega
  ·obtain rfl:j=7:=by omega
   have HR:Hid (weekday s=(0,(fail s).2)):=by
    show _=_
    exact anyOf_no wdays 0 s (fun k y hy=>HPRE.o k y hy (Nat.zero_le _) (List.getElem?_eq_some_iff.1 hy).1)
   go_wp2_with fail
   refine (fail_any E b s _ HA.o.1).mono ?_
   rintro e w1 ⟨rfl,hA1⟩
   have HA1:=hdd (HA.o.trans hA1);clear hA1
   go_wp2_with fail
   go_ret
   exact ⟨ret_int (by rw [HR.o];rfl),by rw [HR.o];exact HA1.o⟩
theorem nd_outcome: ∀(k:Nat) (x:Bytes),(statusW)[k]?=some x→1≤k→nd x:=by
 intro k x h ha
 have hk:k<5:=(List.getElem?_eq_some_iff.1 h).1
 have hc:k=0∨k=1∨k=2∨k=3∨k=4:=by omega
 rcases hc with rfl|rfl|rfl|rfl|rfl<;>first|omega|(injection h with h;subst h;exact nd_of (by decide))
theorem outcome_any (E:Env) (b:Nat) (s:St) (W:World) (h:PW E b s W):
  Calls Tryd.prog 98 #[.pointer (some ⟨b,0,none⟩)] W fun e w'=>e= .returned (.int .i64 ((status s).1:Int))∧After E b (status s).2 W w':=by
 have hbl:=h.2.2.1
 obtain ⟨g,HG⟩: ∃q,Hid (W.heap.size=q):=⟨_,rfl⟩
 obtain ⟨w0,hw0⟩: ∃u,W.alloc (.cells ((statusW).map sv).toArray 9)=u:=⟨_,rfl⟩
 have HB0:Hid (w0.heap[g]?=some (.cells ((statusW).map sv).toArray 9 (0,0))):=by rw [←hw0];exact jq5 HG.o.symm
 have HA0:Hid (After E b s W w0):=by rw [←hw0];exact (After.start h).alloc _
 have HBG:Hid (b≠g):=by show _≠_;have:=HG.o;omega
 have HW0:Hid (W.alloc (.cells #[.string ⟨#[]⟩,.string ⟨[115,116,97,114,116,101,100].toArray⟩,.string ⟨[100,111,110,101].toArray⟩,.string ⟨[102,97,105,108,101,100].toArray⟩,.string ⟨[118,111,105,100].toArray⟩] 9)=w0):=hw0
 clear h hw0
 go_enter Tryd.func98,Tryd.ntmps98
 go_upto_region 2 with fail
 rw [HW0.o,HG.o]
 clear HW0
 go_wp2_with fail
 go_loopw [4] (fun i wr=> ∃j:Nat,i= .int .i64 j∧1≤j∧j≤5∧Hid (∀k x,(statusW)[k]?=some x→1≤k→k<j→isT x s=false)∧Hid (After E b s W wr)∧Hid (wr.heap[g]?=some (.cells ((statusW).map sv).toArray 9 (0,0)))) (fun i _=>5-(intOf i).toNat)
 case atStart=>exact ⟨1,rfl,Nat.le_refl _,by decide,hdd (fun k x hx h1 h2=>by omega),HA0,HB0⟩
 case round=>
  obtain ⟨j,rfl,hja,hj,HPRE,HA,HB⟩:=hrel
  have i1:(0:Int)≤(j:Int):=Int.natCast_nonneg _
  by_cases hlt:j<5
  ·have i2:(j:Int)<7:=by omega
   have i3:(j:Int)<5:=by omega
   obtain ⟨x,hx⟩: ∃x,(statusW)[j]?=some x:=⟨_,List.getElem?_eq_getElem hlt⟩
   have c0:wr.cell? ⟨g,j,none⟩=some (.string ⟨x.toArray⟩):=(jq0 HB.o j).trans (by rw [List.getElem?_toArray,List.getElem?_map,hx];rfl)
   have HND:=hdd (nd_outcome j x hx hja)
   have HX:=hdd hx
   cases hi:isT x s with
   |true=>
    have HR:Hid (status s=(j,{s with rest:=s.rest.tail})):=by
     show _=_
     obtain ⟨j',rfl⟩: ∃j',j=j'+1:=⟨j-1,by omega⟩
     have:=anyOf_yes (statusW.tail) 1 j' x s (fun k y hy hl=>HPRE.o (k+1) y (by simpa [statusW] using hy) (by omega) (by omega)) (by simpa [statusW] using HX.o) hi
     rw [Nat.add_comm] at this
     exact this
    have HAC:=hdd (jj8 hi)
    clear hi hx
    go_wp2_with fail
    refine (jx8 E b s x _ HA.o.1 HND.o).mono ?_
    rw [HAC.o]
    rintro e w1 ⟨rfl,hA1⟩
    have HA1:=hdd (HA.o.trans hA1);clear hA1
    go_wp2_with fail
    go_ret
    exact ⟨ret_int (by rw [HR.o]),by rw [HR.o];exact HA1.o⟩
   |false=>
    have HI:=hdd hi
    have HAC:=hdd (kq2 hi)
    clear hi hx
    go_wp2_with fail
    refine (jx8 E b s x _ HA.o.1 HND.o).mono ?_
    rw [HAC.o]
    rintro e w1 ⟨rfl,hA1⟩
    have HB1:Hid (w1.heap[g]?=some (.cells ((statusW).map sv).toArray 9 (0,0))):=hA1.2.blk HB.o (fun e=>HBG.o e.symm)
    have HA1:=hdd (HA.o.trans hA1);clear hA1
    go_wp2_with fail
    go_roundw
    case rel=>exact ⟨j+1,by go_num,by omega,by omega,hdd (fun k y hy h1 h2=>by
     rcases Nat.lt_succ_iff_lt_or_eq.1 h2 with h3|rfl
     ·exact HPRE.o k y hy h1 h3
     ·rw [HX.o] at hy;injection hy with hy;subst hy;exact HI.o),HA1,HB1⟩
    case measure=>simp [intOf];omega
  ·obtain rfl:j=5:=by omega
   have HR:Hid (status s=(0,(fail s).2)):=by
    show _=_
    exact anyOf_no (statusW.tail) 1 s (fun k y hy=>HPRE.o (k+1) y (by simpa [statusW] using hy) (by omega) (by have:k<4:=(List.getElem?_eq_some_iff.1 hy).1;omega))
   go_wp2_with fail
   refine (fail_any E b s _ HA.o.1).mono ?_
   rintro e w1 ⟨rfl,hA1⟩
   have HA1:=hdd (HA.o.trans hA1);clear hA1
   go_wp2_with fail
   go_ret
   exact ⟨ret_int (by rw [HR.o];rfl),by rw [HR.o];exact HA1.o⟩
end Go.Proofs.YtfaflipphkoiiaaDoor.Rp
namespace Go.Proofs.YtfaflipphkoiiaaDoor.Rp
open Go.RowKit Mem Pr
open Lx (Tok isDigit isLetter isSym)
theorem acc_isT {x:Bytes} {s s':St} {c:Bool} (h:acc x s=(c,s')):isT x s=c:=by
 unfold acc at h
 cases hi:isT x s with
 |true=>rw [hi,if_pos rfl] at h;injection h
 |false=>rw [hi,if_neg (by decide)] at h;injection h
theorem exp_of_acc {x:Bytes} {s s':St} (h:acc x s=(true,s')):expect [x] s=((),s'):=by
 have hi:=acc_isT h
 rw [jj8 hi] at h
 rw [expect_yes hi]
 injection h with _ h
 rw [h]
theorem jv9 (x:Bytes) (s:St):(∃s',acc x s=(true,s'))∨acc x s=(false,s):=by
 cases hi:isT x s with
 |true=>exact .inl ⟨_,jj8 hi⟩
 |false=>exact .inr (kq2 hi)
theorem num_yes {α:Type} {a c:M α} {s:St} (h:isK 2 s=true):(fun s=>if isK 2 s then a s else c s:M α) s=a s:=if_pos h
theorem num_no_ {α:Type} {a c:M α} {s:St} (h:isK 2 s=false):(fun s=>if isK 2 s then a s else c s:M α) s=c s:=if_neg (by rw [h];decide)
def After2 (E:Env) (b q:Nat) (s:St) (W w':World):Prop:=PW E b s w'∧Fr (fun k=>k=b∨k=q) W w'
theorem After2.start {E:Env} {b q:Nat} {s:St} {W:World} (h:PW E b s W):After2 E b q s W W:=⟨h,Fr.refl _ _⟩
theorem After2.trans {E:Env} {b q:Nat} {s s':St} {W W1 W2:World} (h:After2 E b q s W W1) (h2:After E b s' W1 W2):After2 E b q s' W W2:=⟨h2.1,h.2.trans (h2.2.mono fun _ _ e=> .inl e)⟩
theorem After2.trans2 {E:Env} {b q:Nat} {s s':St} {W W1 W2:World} (h:After2 E b q s W W1) (h2:After2 E b q s' W1 W2):After2 E b q s' W W2:=⟨h2.1,h.2.trans h2.2⟩
theorem After2.drewN {E:Env} {b q:Nat} {s:St} {W W1:World} (h:After2 E b q s W W1) (n:Nat):After2 E b q s W (W1.drewN n):=⟨h.1.drewN n,h.2.drewN n⟩
theorem After2.alloc {E:Env} {b q:Nat} {s:St} {W W1:World} (h:After2 E b q s W W1) (o:Obj):After2 E b q s W (W1.alloc o):=⟨h.1.alloc o,h.2.alloc o⟩
theorem After2.set {E:Env} {b q:Nat} {s:St} {W W1:World} (h:After2 E b q s W W1) {i:Nat} (hb:b<q) (u:Value):After2 E b q s W (W1.setCell ⟨q,i,none⟩ u):=
 ⟨h.1.set hb u,h.2.setCell (p:=⟨q,i,none⟩) (.inl (.inr rfl)) u⟩
theorem After.ptr {E:Env} {b q:Nat} {s s':St} {W W1 W2:World} (h:After E b s W W1) (h2:After2 E b q s' W1 W2) (hq:W.heap.size≤q):After E b s' W W2:=
 ⟨h2.1,h.2.trans' h2.2 (fun i hi hT=>by rcases hT with e|e<;>omega)⟩
def unitR (n:Bytes):M Flat:=Pr.bnd (acc [103,111,111,100,115]) fun g=>if g then unitTail n 1 else Pr.seq (expect [[109,111,110,101,121]]) (unitTail n 2)
def actR (n:Bytes):M Flat:=Pr.seq (expect [[98,121]]) (Pr.bnd name fun o=>Pr.bnd (acc [97,115,115,105,103,110,115]) fun a=>if a then actGive n o 2 else Pr.bnd (acc [110,111,118,97,116,101,115]) fun v=>if v then actGive n o 3
 else Pr.bnd (acc [109,111,118,101,115]) fun m=>if m then Pr.bnd Pr.ratio fun r=>Pr.bnd name fun u=>actTo n o r u else actTo n o ⟨0,0⟩ [])
theorem nat_yes {o:Bytes} (h:o= [110,97,116,117,114,101]):nature o= []:=if_pos h
theorem nat_no {o:Bytes} (h:(o== [110,97,116,117,114,101])=false):nature o=o:=if_neg (by simpa using h)
theorem price_p1 (E:Env) (b:Nat) (s:St) (W:World) (h:PW E b s W) (q:Nat) (f:Flat) (sc sd sn si:Value) (hI:IB q f sc sd sn si W) (hq:b<q) (s1:St) (r:Ratio) (s3:St) (u:Bytes) (s4:St) (u5:Unit) (s5:St) (x:Bytes) (s6:St) (fb:Bool) (s7:St) (h1:acc [118,97,108,117,101] s=(true,s1)) (h2:isK 2 s1=true) (h3:Pr.ratio s1=(r,s3)) (h4:name s3=(u,s4)) (h5:expect [[116,111]] s4=(u5,s5)) (h6:name s5=(x,s6)) (h7:acc [102,105,110,97,108] s6=(fb,s7)):
  Calls Tryd.prog 79 #[.pointer (some ⟨b,0,none⟩),.pointer (some ⟨q,0,none⟩)] W fun e w'=>e= .returned (.tuple #[])∧IB q {f with num:=r,unit:=u,to_:=x,fin:=fb} sc sd sn si w'∧After2 E b q s7 W w':=by
 have HP:=hdd h;clear h
 have HI:=hdd hI;clear hI
 have H1:=hdd h1;clear h1
 have H2:=hdd h2;clear h2
 have H3:=hdd h3;clear h3
 have H4:=hdd h4;clear h4
 have H5:=hdd h5;clear h5
 have H6:=hdd h6;clear h6
 have H7:=hdd h7;clear h7
 go_enter Tryd.func79,Tryd.ntmps79
 go_wp2_with fail
 refine (jx8 E b s [118,97,108,117,101] _ (After2.start (q:=q) HP.o).1 (nd_of (by decide))).mono ?_
 rw [H1.o]
 rintro e w1 ⟨rfl,hA⟩
 have GI:Hid (IB q f sc sd sn si w1):=hA.2.blk HI.o (by omega)
 have GA:=hdd ((After2.start (q:=q) HP.o).trans hA)
 clear hA
 clear HI
 revert GI GA;intro HI HA
 go_wp2_with fail
 refine (is_any E b s1 2 _ HA.o.1).mono ?_
 rw [H2.o]
 rintro e w2 ⟨rfl,m2,rfl⟩
 go_wp2_with fail
 refine (ratio_any E b s1 _ (HA.o.drewN m2).1).mono ?_
 rw [H3.o]
 rintro e w3 ⟨rfl,hA⟩
 have GI:Hid (IB q f sc sd sn si w3):=hA.2.blk (jx2 HI.o m2) (by omega)
 have GA:=hdd ((HA.o.drewN m2).trans hA)
 clear hA
 clear HI
 clear HA
 revert GI GA;intro HI HA
 have k_16:w3.cell? ⟨q,16,none⟩=some (.int .i64 (f.num.num:Int)):=jq0 HI.o 16
 have f_16:w3.frozen? ⟨q,16,none⟩=false:=jq1 HI.o 16
 have k_17:w3.cell? ⟨q,17,none⟩=some (.int .i64 (f.num.den:Int)):=jq0 HI.o 17
 have f_17:w3.frozen? ⟨q,17,none⟩=false:=jq1 HI.o 17
 go_wp2_with fail
 refine (name_any E b s3 _ ((HA.o.set (i:=16) hq (.int .i64 (r.num:Int))).set (i:=17) hq (.int .i64 (r.den:Int))).1).mono ?_
 rw [H4.o]
 rintro e w4 ⟨rfl,hA⟩
 have GI:Hid (IB q {f with num:=r} sc sd sn si w4):=hA.2.blk (IB.set_num HI.o r) (by omega)
 have GA:=hdd (((HA.o.set (i:=16) hq (.int .i64 (r.num:Int))).set (i:=17) hq (.int .i64 (r.den:Int))).trans hA)
 clear hA
 try clear k_16 f_16 k_17 f_17
 clear HI
 clear HA
 revert GI GA;intro HI HA
 have k_18:w4.cell? ⟨q,18,none⟩=some (.string ⟨f.unit.toArray⟩):=jq0 HI.o 18
 have f_18:w4.frozen? ⟨q,18,none⟩=false:=jq1 HI.o 18
 go_wp2_with fail
 refine (jx3 E b s4 [116,111] _ (HA.o.set (i:=18) hq (.string ⟨u.toArray⟩)).1 (nd_of (by decide))).mono ?_
 rw [H5.o]
 rintro e w5 ⟨rfl,hA⟩
 have GI:Hid (IB q {f with num:=r,unit:=u} sc sd sn si w5):=hA.2.blk (IB.set_unit HI.o u) (by omega)
 have GA:=hdd ((HA.o.set (i:=18) hq (.string ⟨u.toArray⟩)).trans hA)
 clear hA
 try clear k_18 f_18
 clear HI
 clear HA
 revert GI GA;intro HI HA
 go_wp2_with fail
 refine (name_any E b s5 _ HA.o.1).mono ?_
 rw [H6.o]
 rintro e w6 ⟨rfl,hA⟩
 have GI:Hid (IB q {f with num:=r,unit:=u} sc sd sn si w6):=hA.2.blk HI.o (by omega)
 have GA:=hdd (HA.o.trans hA)
 clear hA
 clear HI
 clear HA
 revert GI GA;intro HI HA
 have k_22:w6.cell? ⟨q,22,none⟩=some (.string ⟨f.to_.toArray⟩):=jq0 HI.o 22
 have f_22:w6.frozen? ⟨q,22,none⟩=false:=jq1 HI.o 22
 go_wp2_with fail
 refine (jx8 E b s6 [102,105,110,97,108] _ (HA.o.set (i:=22) hq (.string ⟨x.toArray⟩)).1 (nd_of (by decide))).mono ?_
 rw [H7.o]
 rintro e w7 ⟨rfl,hA⟩
 have GI:Hid (IB q {f with num:=r,unit:=u,to_:=x} sc sd sn si w7):=hA.2.blk (IB.set_to_ HI.o x) (by omega)
 have GA:=hdd ((HA.o.set (i:=22) hq (.string ⟨x.toArray⟩)).trans hA)
 clear hA
 try clear k_22 f_22
 clear HI
 clear HA
 revert GI GA;intro HI HA
 have k_20:w7.cell? ⟨q,20,none⟩=some (.bool f.fin):=jq0 HI.o 20
 have f_20:w7.frozen? ⟨q,20,none⟩=false:=jq1 HI.o 20
 go_wp2_with fail
 first|go_end0|refine bodyPost_ret (results_none rfl _ _ _) rfl ?_
 exact ⟨rfl,(IB.set_fin HI.o fb),(HA.o.set (i:=20) hq (.bool fb))⟩
theorem price_p2 (E:Env) (b:Nat) (s:St) (W:World) (h:PW E b s W) (q:Nat) (f:Flat) (sc sd sn si:Value) (hI:IB q f sc sd sn si W) (hq:b<q) (s1:St) (c:Bytes) (s3:St) (u4:Unit) (s4:St) (x:Bytes) (s5:St) (fb:Bool) (s6:St) (h1:acc [118,97,108,117,101] s=(true,s1)) (h2:isK 2 s1=false) (h3:name s1=(c,s3)) (h4:expect [[116,111]] s3=(u4,s4)) (h5:name s4=(x,s5)) (h6:acc [102,105,110,97,108] s5=(fb,s6)):
  Calls Tryd.prog 79 #[.pointer (some ⟨b,0,none⟩),.pointer (some ⟨q,0,none⟩)] W fun e w'=>e= .returned (.tuple #[])∧IB q {f with sum:=c,to_:=x,fin:=fb} sc sd sn si w'∧After2 E b q s6 W w':=by
 have HP:=hdd h;clear h
 have HI:=hdd hI;clear hI
 have H1:=hdd h1;clear h1
 have H2:=hdd h2;clear h2
 have H3:=hdd h3;clear h3
 have H4:=hdd h4;clear h4
 have H5:=hdd h5;clear h5
 have H6:=hdd h6;clear h6
 go_enter Tryd.func79,Tryd.ntmps79
 go_wp2_with fail
 refine (jx8 E b s [118,97,108,117,101] _ (After2.start (q:=q) HP.o).1 (nd_of (by decide))).mono ?_
 rw [H1.o]
 rintro e w1 ⟨rfl,hA⟩
 have GI:Hid (IB q f sc sd sn si w1):=hA.2.blk HI.o (by omega)
 have GA:=hdd ((After2.start (q:=q) HP.o).trans hA)
 clear hA
 clear HI
 revert GI GA;intro HI HA
 go_wp2_with fail
 refine (is_any E b s1 2 _ HA.o.1).mono ?_
 rw [H2.o]
 rintro e w2 ⟨rfl,m2,rfl⟩
 go_wp2_with fail
 refine (name_any E b s1 _ (HA.o.drewN m2).1).mono ?_
 rw [H3.o]
 rintro e w3 ⟨rfl,hA⟩
 have GI:Hid (IB q f sc sd sn si w3):=hA.2.blk (jx2 HI.o m2) (by omega)
 have GA:=hdd ((HA.o.drewN m2).trans hA)
 clear hA
 clear HI
 clear HA
 revert GI GA;intro HI HA
 have k_19:w3.cell? ⟨q,19,none⟩=some (.string ⟨f.sum.toArray⟩):=jq0 HI.o 19
 have f_19:w3.frozen? ⟨q,19,none⟩=false:=jq1 HI.o 19
 go_wp2_with fail
 refine (jx3 E b s3 [116,111] _ (HA.o.set (i:=19) hq (.string ⟨c.toArray⟩)).1 (nd_of (by decide))).mono ?_
 rw [H4.o]
 rintro e w4 ⟨rfl,hA⟩
 have GI:Hid (IB q {f with sum:=c} sc sd sn si w4):=hA.2.blk (IB.set_sum HI.o c) (by omega)
 have GA:=hdd ((HA.o.set (i:=19) hq (.string ⟨c.toArray⟩)).trans hA)
 clear hA
 try clear k_19 f_19
 clear HI
 clear HA
 revert GI GA;intro HI HA
 go_wp2_with fail
 refine (name_any E b s4 _ HA.o.1).mono ?_
 rw [H5.o]
 rintro e w5 ⟨rfl,hA⟩
 have GI:Hid (IB q {f with sum:=c} sc sd sn si w5):=hA.2.blk HI.o (by omega)
 have GA:=hdd (HA.o.trans hA)
 clear hA
 clear HI
 clear HA
 revert GI GA;intro HI HA
 have k_22:w5.cell? ⟨q,22,none⟩=some (.string ⟨f.to_.toArray⟩):=jq0 HI.o 22
 have f_22:w5.frozen? ⟨q,22,none⟩=false:=jq1 HI.o 22
 go_wp2_with fail
 refine (jx8 E b s5 [102,105,110,97,108] _ (HA.o.set (i:=22) hq (.string ⟨x.toArray⟩)).1 (nd_of (by decide))).mono ?_
 rw [H6.o]
 rintro e w6 ⟨rfl,hA⟩
 have GI:Hid (IB q {f with sum:=c,to_:=x} sc sd sn si w6):=hA.2.blk (IB.set_to_ HI.o x) (by omega)
 have GA:=hdd ((HA.o.set (i:=22) hq (.string ⟨x.toArray⟩)).trans hA)
 clear hA
 try clear k_22 f_22
 clear HI
 clear HA
 revert GI GA;intro HI HA
 have k_20:w6.cell? ⟨q,20,none⟩=some (.bool f.fin):=jq0 HI.o 20
 have f_20:w6.frozen? ⟨q,20,none⟩=false:=jq1 HI.o 20
 go_wp2_with fail
 first|go_end0|refine bodyPost_ret (results_none rfl _ _ _) rfl ?_
 exact ⟨rfl,(IB.set_fin HI.o fb),(HA.o.set (i:=20) hq (.bool fb))⟩
theorem price_p3 (E:Env) (b:Nat) (s:St) (W:World) (h:PW E b s W) (q:Nat) (f:Flat) (sc sd sn si:Value) (hI:IB q f sc sd sn si W) (hq:b<q) (fb:Bool) (s2:St) (h1:acc [118,97,108,117,101] s=(false,s)) (h2:acc [102,105,110,97,108] s=(fb,s2)):
  Calls Tryd.prog 79 #[.pointer (some ⟨b,0,none⟩),.pointer (some ⟨q,0,none⟩)] W fun e w'=>e= .returned (.tuple #[])∧IB q {f with fin:=fb} sc sd sn si w'∧After2 E b q s2 W w':=by
 have HP:=hdd h;clear h
 have HI:=hdd hI;clear hI
 have H1:=hdd h1;clear h1
 have H2:=hdd h2;clear h2
 go_enter Tryd.func79,Tryd.ntmps79
 go_wp2_with fail
 refine (jx8 E b s [118,97,108,117,101] _ (After2.start (q:=q) HP.o).1 (nd_of (by decide))).mono ?_
 rw [H1.o]
 rintro e w1 ⟨rfl,hA⟩
 have GI:Hid (IB q f sc sd sn si w1):=hA.2.blk HI.o (by omega)
 have GA:=hdd ((After2.start (q:=q) HP.o).trans hA)
 clear hA
 clear HI
 revert GI GA;intro HI HA
 go_wp2_with fail
 refine (jx8 E b s [102,105,110,97,108] _ HA.o.1 (nd_of (by decide))).mono ?_
 rw [H2.o]
 rintro e w2 ⟨rfl,hA⟩
 have GI:Hid (IB q f sc sd sn si w2):=hA.2.blk HI.o (by omega)
 have GA:=hdd (HA.o.trans hA)
 clear hA
 clear HI
 clear HA
 revert GI GA;intro HI HA
 have k_20:w2.cell? ⟨q,20,none⟩=some (.bool f.fin):=jq0 HI.o 20
 have f_20:w2.frozen? ⟨q,20,none⟩=false:=jq1 HI.o 20
 go_wp2_with fail
 first|go_end0|refine bodyPost_ret (results_none rfl _ _ _) rfl ?_
 exact ⟨rfl,(IB.set_fin HI.o fb),(HA.o.set (i:=20) hq (.bool fb))⟩
theorem price_any (E:Env) (b:Nat) (s:St) (W:World) (h:PW E b s W) (q:Nat) (f:Flat) (sc sd sn si:Value) (hI:IB q f sc sd sn si W) (hq:b<q) (hf:f.num=⟨0,0⟩∧f.unit= []∧f.sum= []∧f.to_= []):
  Calls Tryd.prog 79 #[.pointer (some ⟨b,0,none⟩),.pointer (some ⟨q,0,none⟩)] W fun e w'=>e= .returned (.tuple #[])∧IB q {f with num:=(rprice s).1.1.num,unit:=(rprice s).1.1.unit,sum:=(rprice s).1.1.sum,to_:=(rprice s).1.1.to_,fin:=(rprice s).1.2} sc sd sn si w'∧After2 E b q (rprice s).2 W w':=by
 obtain ⟨f0,f1,f2,f3,f4,f5,f6,f7,f8,f9,f10,f11,f12,f13,f14,f15,f16,f17,f18,f19,f20⟩:=f
 obtain ⟨rfl,rfl,rfl,rfl⟩:=hf
 rcases jv9 [118,97,108,117,101] s with ⟨s1,h1⟩|h1
 ·cases h2:isK 2 s1 with
  |true=>
   obtain ⟨r,s3,h3⟩: ∃x s',Pr.ratio s1=(x,s'):=⟨_,_,rfl⟩
   obtain ⟨u,s4,h4⟩: ∃x s',name s3=(x,s'):=⟨_,_,rfl⟩
   obtain ⟨u5,s5,h5⟩: ∃x s',expect [[116,111]] s4=(x,s'):=⟨_,_,rfl⟩
   obtain ⟨x,s6,h6⟩: ∃x s',name s5=(x,s'):=⟨_,_,rfl⟩
   obtain ⟨fb,s7,h7⟩: ∃x s',acc [102,105,110,97,108] s6=(x,s'):=⟨_,_,rfl⟩
   have hp:rprice s=((⟨r,u,[],x⟩,fb),s7):=(jz1 h1).trans ((num_yes h2).trans ((jq3 h3).trans ((jq3 h4).trans ((jx1 h5).trans ((jq3 h6).trans ((jq3 h7).trans (rfl)))))))
   rw [hp]
   exact price_p1 E b s W h q _ sc sd sn si hI hq s1 r s3 u s4 u5 s5 x s6 fb s7 h1 h2 h3 h4 h5 h6 h7
  |false=>
   obtain ⟨c,s3,h3⟩: ∃x s',name s1=(x,s'):=⟨_,_,rfl⟩
   obtain ⟨u4,s4,h4⟩: ∃x s',expect [[116,111]] s3=(x,s'):=⟨_,_,rfl⟩
   obtain ⟨x,s5,h5⟩: ∃x s',name s4=(x,s'):=⟨_,_,rfl⟩
   obtain ⟨fb,s6,h6⟩: ∃x s',acc [102,105,110,97,108] s5=(x,s'):=⟨_,_,rfl⟩
   have hp:rprice s=((⟨⟨0,0⟩,[],c,x⟩,fb),s6):=(jz1 h1).trans ((num_no_ h2).trans ((jq3 h3).trans ((jx1 h4).trans ((jq3 h5).trans ((jq3 h6).trans (rfl))))))
   rw [hp]
   exact price_p2 E b s W h q _ sc sd sn si hI hq s1 c s3 u4 s4 x s5 fb s6 h1 h2 h3 h4 h5 h6
 ·obtain ⟨fb,s2,h2⟩: ∃x s',acc [102,105,110,97,108] s=(x,s'):=⟨_,_,rfl⟩
  have hp:rprice s=((⟨⟨0,0⟩,[],[],[]⟩,fb),s2):=(jx9 h1).trans ((jq3 h2).trans (rfl))
  rw [hp]
  exact price_p3 E b s W h q _ sc sd sn si hI hq fb s2 h1 h2
theorem unit_p1 (E:Env) (b:Nat) (s:St) (W:World) (h:PW E b s W) (q:Nat) (f:Flat) (sc sd sn si:Value) (hI:IB q f sc sd sn si W) (hq:b<q) (s1:St) (s2:St) (r:Ratio) (s3:St) (u:Bytes) (s4:St) (u5:Unit) (s5:St) (h1:acc [103,111,111,100,115] s=(true,s1)) (h2:acc [61] s1=(true,s2)) (h3:Pr.ratio s2=(r,s3)) (h4:name s3=(u,s4)) (h5:expect [[59]] s4=(u5,s5)):
  Calls Tryd.prog 47 #[.pointer (some ⟨b,0,none⟩),.pointer (some ⟨q,0,none⟩)] W fun e w'=>e= .returned (.tuple #[])∧IB q {f with word:=1,num:=r,unit:=u} sc sd sn si w'∧After2 E b q s5 W w':=by
 have HP:=hdd h;clear h
 have HI:=hdd hI;clear hI
 have H1:=hdd h1;clear h1
 have H2:=hdd h2;clear h2
 have H3:=hdd h3;clear h3
 have H4:=hdd h4;clear h4
 have H5:=hdd h5;clear h5
 go_enter Tryd.func47,Tryd.ntmps47
 have k_5:W.cell? ⟨q,5,none⟩=some (.int .i64 (f.word:Int)):=jq0 HI.o 5
 have f_5:W.frozen? ⟨q,5,none⟩=false:=jq1 HI.o 5
 go_wp2_with fail
 refine (jx8 E b s [103,111,111,100,115] _ ((After2.start (q:=q) HP.o).set (i:=5) hq (.int .i64 (2:Int))).1 (nd_of (by decide))).mono ?_
 rw [H1.o]
 rintro e w1 ⟨rfl,hA⟩
 have GI:Hid (IB q {f with word:=2} sc sd sn si w1):=hA.2.blk (IB.set_word HI.o 2) (by omega)
 have GA:=hdd (((After2.start (q:=q) HP.o).set (i:=5) hq (.int .i64 (2:Int))).trans hA)
 clear hA
 try clear k_5 f_5
 clear HI
 revert GI GA;intro HI HA
 have k_5:w1.cell? ⟨q,5,none⟩=some (.int .i64 2):=jq0 HI.o 5
 have f_5:w1.frozen? ⟨q,5,none⟩=false:=jq1 HI.o 5
 go_wp2_with fail
 refine (jx8 E b s1 [61] _ (HA.o.set (i:=5) hq (.int .i64 (1:Int))).1 (nd_of (by decide))).mono ?_
 rw [H2.o]
 rintro e w2 ⟨rfl,hA⟩
 have GI:Hid (IB q {f with word:=1} sc sd sn si w2):=hA.2.blk (IB.set_word HI.o 1) (by omega)
 have GA:=hdd ((HA.o.set (i:=5) hq (.int .i64 (1:Int))).trans hA)
 clear hA
 try clear k_5 f_5
 clear HI
 clear HA
 revert GI GA;intro HI HA
 go_wp2_with fail
 refine (ratio_any E b s2 _ HA.o.1).mono ?_
 rw [H3.o]
 rintro e w3 ⟨rfl,hA⟩
 have GI:Hid (IB q {f with word:=1} sc sd sn si w3):=hA.2.blk HI.o (by omega)
 have GA:=hdd (HA.o.trans hA)
 clear hA
 clear HI
 clear HA
 revert GI GA;intro HI HA
 have k_16:w3.cell? ⟨q,16,none⟩=some (.int .i64 (f.num.num:Int)):=jq0 HI.o 16
 have f_16:w3.frozen? ⟨q,16,none⟩=false:=jq1 HI.o 16
 have k_17:w3.cell? ⟨q,17,none⟩=some (.int .i64 (f.num.den:Int)):=jq0 HI.o 17
 have f_17:w3.frozen? ⟨q,17,none⟩=false:=jq1 HI.o 17
 go_wp2_with fail
 refine (name_any E b s3 _ ((HA.o.set (i:=16) hq (.int .i64 (r.num:Int))).set (i:=17) hq (.int .i64 (r.den:Int))).1).mono ?_
 rw [H4.o]
 rintro e w4 ⟨rfl,hA⟩
 have GI:Hid (IB q {f with word:=1,num:=r} sc sd sn si w4):=hA.2.blk (IB.set_num HI.o r) (by omega)
 have GA:=hdd (((HA.o.set (i:=16) hq (.int .i64 (r.num:Int))).set (i:=17) hq (.int .i64 (r.den:Int))).trans hA)
 clear hA
 try clear k_16 f_16 k_17 f_17
 clear HI
 clear HA
 revert GI GA;intro HI HA
 have k_18:w4.cell? ⟨q,18,none⟩=some (.string ⟨f.unit.toArray⟩):=jq0 HI.o 18
 have f_18:w4.frozen? ⟨q,18,none⟩=false:=jq1 HI.o 18
 go_wp2_with fail
 refine (jx3 E b s4 [59] _ (HA.o.set (i:=18) hq (.string ⟨u.toArray⟩)).1 (nd_of (by decide))).mono ?_
 rw [H5.o]
 rintro e w5 ⟨rfl,hA⟩
 have GI:Hid (IB q {f with word:=1,num:=r,unit:=u} sc sd sn si w5):=hA.2.blk (IB.set_unit HI.o u) (by omega)
 have GA:=hdd ((HA.o.set (i:=18) hq (.string ⟨u.toArray⟩)).trans hA)
 clear hA
 try clear k_18 f_18
 clear HI
 clear HA
 revert GI GA;intro HI HA
 go_wp2_with fail
 first|go_end0|refine bodyPost_ret (results_none rfl _ _ _) rfl ?_
 exact ⟨rfl,HI.o,HA.o⟩
theorem unit_p2 (E:Env) (b:Nat) (s:St) (W:World) (h:PW E b s W) (q:Nat) (f:Flat) (sc sd sn si:Value) (hI:IB q f sc sd sn si W) (hq:b<q) (s1:St) (u3:Unit) (s3:St) (h1:acc [103,111,111,100,115] s=(true,s1)) (h2:acc [61] s1=(false,s1)) (h3:expect [[59]] s1=(u3,s3)):
  Calls Tryd.prog 47 #[.pointer (some ⟨b,0,none⟩),.pointer (some ⟨q,0,none⟩)] W fun e w'=>e= .returned (.tuple #[])∧IB q {f with word:=1} sc sd sn si w'∧After2 E b q s3 W w':=by
 have HP:=hdd h;clear h
 have HI:=hdd hI;clear hI
 have H1:=hdd h1;clear h1
 have H2:=hdd h2;clear h2
 have H3:=hdd h3;clear h3
 go_enter Tryd.func47,Tryd.ntmps47
 have k_5:W.cell? ⟨q,5,none⟩=some (.int .i64 (f.word:Int)):=jq0 HI.o 5
 have f_5:W.frozen? ⟨q,5,none⟩=false:=jq1 HI.o 5
 go_wp2_with fail
 refine (jx8 E b s [103,111,111,100,115] _ ((After2.start (q:=q) HP.o).set (i:=5) hq (.int .i64 (2:Int))).1 (nd_of (by decide))).mono ?_
 rw [H1.o]
 rintro e w1 ⟨rfl,hA⟩
 have GI:Hid (IB q {f with word:=2} sc sd sn si w1):=hA.2.blk (IB.set_word HI.o 2) (by omega)
 have GA:=hdd (((After2.start (q:=q) HP.o).set (i:=5) hq (.int .i64 (2:Int))).trans hA)
 clear hA
 try clear k_5 f_5
 clear HI
 revert GI GA;intro HI HA
 have k_5:w1.cell? ⟨q,5,none⟩=some (.int .i64 2):=jq0 HI.o 5
 have f_5:w1.frozen? ⟨q,5,none⟩=false:=jq1 HI.o 5
 go_wp2_with fail
 refine (jx8 E b s1 [61] _ (HA.o.set (i:=5) hq (.int .i64 (1:Int))).1 (nd_of (by decide))).mono ?_
 rw [H2.o]
 rintro e w2 ⟨rfl,hA⟩
 have GI:Hid (IB q {f with word:=1} sc sd sn si w2):=hA.2.blk (IB.set_word HI.o 1) (by omega)
 have GA:=hdd ((HA.o.set (i:=5) hq (.int .i64 (1:Int))).trans hA)
 clear hA
 try clear k_5 f_5
 clear HI
 clear HA
 revert GI GA;intro HI HA
 go_wp2_with fail
 refine (jx3 E b s1 [59] _ HA.o.1 (nd_of (by decide))).mono ?_
 rw [H3.o]
 rintro e w3 ⟨rfl,hA⟩
 have GI:Hid (IB q {f with word:=1} sc sd sn si w3):=hA.2.blk HI.o (by omega)
 have GA:=hdd (HA.o.trans hA)
 clear hA
 clear HI
 clear HA
 revert GI GA;intro HI HA
 go_wp2_with fail
 first|go_end0|refine bodyPost_ret (results_none rfl _ _ _) rfl ?_
 exact ⟨rfl,HI.o,HA.o⟩
theorem unit_p3 (E:Env) (b:Nat) (s:St) (W:World) (h:PW E b s W) (q:Nat) (f:Flat) (sc sd sn si:Value) (hI:IB q f sc sd sn si W) (hq:b<q) (u2:Unit) (s2:St) (s3:St) (r:Ratio) (s4:St) (u:Bytes) (s5:St) (u6:Unit) (s6:St) (h1:acc [103,111,111,100,115] s=(false,s)) (h2:expect [[109,111,110,101,121]] s=(u2,s2)) (h3:acc [61] s2=(true,s3)) (h4:Pr.ratio s3=(r,s4)) (h5:name s4=(u,s5)) (h6:expect [[59]] s5=(u6,s6)):
  Calls Tryd.prog 47 #[.pointer (some ⟨b,0,none⟩),.pointer (some ⟨q,0,none⟩)] W fun e w'=>e= .returned (.tuple #[])∧IB q {f with word:=2,num:=r,unit:=u} sc sd sn si w'∧After2 E b q s6 W w':=by
 have HP:=hdd h;clear h
 have HI:=hdd hI;clear hI
 have H1:=hdd h1;clear h1
 have H2:=hdd h2;clear h2
 have H3:=hdd h3;clear h3
 have H4:=hdd h4;clear h4
 have H5:=hdd h5;clear h5
 have H6:=hdd h6;clear h6
 go_enter Tryd.func47,Tryd.ntmps47
 have k_5:W.cell? ⟨q,5,none⟩=some (.int .i64 (f.word:Int)):=jq0 HI.o 5
 have f_5:W.frozen? ⟨q,5,none⟩=false:=jq1 HI.o 5
 go_wp2_with fail
 refine (jx8 E b s [103,111,111,100,115] _ ((After2.start (q:=q) HP.o).set (i:=5) hq (.int .i64 (2:Int))).1 (nd_of (by decide))).mono ?_
 rw [H1.o]
 rintro e w1 ⟨rfl,hA⟩
 have GI:Hid (IB q {f with word:=2} sc sd sn si w1):=hA.2.blk (IB.set_word HI.o 2) (by omega)
 have GA:=hdd (((After2.start (q:=q) HP.o).set (i:=5) hq (.int .i64 (2:Int))).trans hA)
 clear hA
 try clear k_5 f_5
 clear HI
 revert GI GA;intro HI HA
 go_wp2_with fail
 refine (jx3 E b s [109,111,110,101,121] _ HA.o.1 (nd_of (by decide))).mono ?_
 rw [H2.o]
 rintro e w2 ⟨rfl,hA⟩
 have GI:Hid (IB q {f with word:=2} sc sd sn si w2):=hA.2.blk HI.o (by omega)
 have GA:=hdd (HA.o.trans hA)
 clear hA
 clear HI
 clear HA
 revert GI GA;intro HI HA
 go_wp2_with fail
 refine (jx8 E b s2 [61] _ HA.o.1 (nd_of (by decide))).mono ?_
 rw [H3.o]
 rintro e w3 ⟨rfl,hA⟩
 have GI:Hid (IB q {f with word:=2} sc sd sn si w3):=hA.2.blk HI.o (by omega)
 have GA:=hdd (HA.o.trans hA)
 clear hA
 clear HI
 clear HA
 revert GI GA;intro HI HA
 go_wp2_with fail
 refine (ratio_any E b s3 _ HA.o.1).mono ?_
 rw [H4.o]
 rintro e w4 ⟨rfl,hA⟩
 have GI:Hid (IB q {f with word:=2} sc sd sn si w4):=hA.2.blk HI.o (by omega)
 have GA:=hdd (HA.o.trans hA)
 clear hA
 clear HI
 clear HA
 revert GI GA;intro HI HA
 have k_16:w4.cell? ⟨q,16,none⟩=some (.int .i64 (f.num.num:Int)):=jq0 HI.o 16
 have f_16:w4.frozen? ⟨q,16,none⟩=false:=jq1 HI.o 16
 have k_17:w4.cell? ⟨q,17,none⟩=some (.int .i64 (f.num.den:Int)):=jq0 HI.o 17
 have f_17:w4.frozen? ⟨q,17,none⟩=false:=jq1 HI.o 17
 go_wp2_with fail
 refine (name_any E b s4 _ ((HA.o.set (i:=16) hq (.int .i64 (r.num:Int))).set (i:=17) hq (.int .i64 (r.den:Int))).1).mono ?_
 rw [H5.o]
 rintro e w5 ⟨rfl,hA⟩
 have GI:Hid (IB q {f with word:=2,num:=r} sc sd sn si w5):=hA.2.blk (IB.set_num HI.o r) (by omega)
 have GA:=hdd (((HA.o.set (i:=16) hq (.int .i64 (r.num:Int))).set (i:=17) hq (.int .i64 (r.den:Int))).trans hA)
 clear hA
 try clear k_16 f_16 k_17 f_17
 clear HI
 clear HA
 revert GI GA;intro HI HA
 have k_18:w5.cell? ⟨q,18,none⟩=some (.string ⟨f.unit.toArray⟩):=jq0 HI.o 18
 have f_18:w5.frozen? ⟨q,18,none⟩=false:=jq1 HI.o 18
 go_wp2_with fail
 refine (jx3 E b s5 [59] _ (HA.o.set (i:=18) hq (.string ⟨u.toArray⟩)).1 (nd_of (by decide))).mono ?_
 rw [H6.o]
 rintro e w6 ⟨rfl,hA⟩
 have GI:Hid (IB q {f with word:=2,num:=r,unit:=u} sc sd sn si w6):=hA.2.blk (IB.set_unit HI.o u) (by omega)
 have GA:=hdd ((HA.o.set (i:=18) hq (.string ⟨u.toArray⟩)).trans hA)
 clear hA
 try clear k_18 f_18
 clear HI
 clear HA
 revert GI GA;intro HI HA
 go_wp2_with fail
 first|go_end0|refine bodyPost_ret (results_none rfl _ _ _) rfl ?_
 exact ⟨rfl,HI.o,HA.o⟩
theorem unit_p4 (E:Env) (b:Nat) (s:St) (W:World) (h:PW E b s W) (q:Nat) (f:Flat) (sc sd sn si:Value) (hI:IB q f sc sd sn si W) (hq:b<q) (u2:Unit) (s2:St) (u4:Unit) (s4:St) (h1:acc [103,111,111,100,115] s=(false,s)) (h2:expect [[109,111,110,101,121]] s=(u2,s2)) (h3:acc [61] s2=(false,s2)) (h4:expect [[59]] s2=(u4,s4)):
  Calls Tryd.prog 47 #[.pointer (some ⟨b,0,none⟩),.pointer (some ⟨q,0,none⟩)] W fun e w'=>e= .returned (.tuple #[])∧IB q {f with word:=2} sc sd sn si w'∧After2 E b q s4 W w':=by
 have HP:=hdd h;clear h
 have HI:=hdd hI;clear hI
 have H1:=hdd h1;clear h1
 have H2:=hdd h2;clear h2
 have H3:=hdd h3;clear h3
 have H4:=hdd h4;clear h4
 go_enter Tryd.func47,Tryd.ntmps47
 have k_5:W.cell? ⟨q,5,none⟩=some (.int .i64 (f.word:Int)):=jq0 HI.o 5
 have f_5:W.frozen? ⟨q,5,none⟩=false:=jq1 HI.o 5
 go_wp2_with fail
 refine (jx8 E b s [103,111,111,100,115] _ ((After2.start (q:=q) HP.o).set (i:=5) hq (.int .i64 (2:Int))).1 (nd_of (by decide))).mono ?_
 rw [H1.o]
 rintro e w1 ⟨rfl,hA⟩
 have GI:Hid (IB q {f with word:=2} sc sd sn si w1):=hA.2.blk (IB.set_word HI.o 2) (by omega)
 have GA:=hdd (((After2.start (q:=q) HP.o).set (i:=5) hq (.int .i64 (2:Int))).trans hA)
 clear hA
 try clear k_5 f_5
 clear HI
 revert GI GA;intro HI HA
 go_wp2_with fail
 refine (jx3 E b s [109,111,110,101,121] _ HA.o.1 (nd_of (by decide))).mono ?_
 rw [H2.o]
 rintro e w2 ⟨rfl,hA⟩
 have GI:Hid (IB q {f with word:=2} sc sd sn si w2):=hA.2.blk HI.o (by omega)
 have GA:=hdd (HA.o.trans hA)
 clear hA
 clear HI
 clear HA
 revert GI GA;intro HI HA
 go_wp2_with fail
 refine (jx8 E b s2 [61] _ HA.o.1 (nd_of (by decide))).mono ?_
 rw [H3.o]
 rintro e w3 ⟨rfl,hA⟩
 have GI:Hid (IB q {f with word:=2} sc sd sn si w3):=hA.2.blk HI.o (by omega)
 have GA:=hdd (HA.o.trans hA)
 clear hA
 clear HI
 clear HA
 revert GI GA;intro HI HA
 go_wp2_with fail
 refine (jx3 E b s2 [59] _ HA.o.1 (nd_of (by decide))).mono ?_
 rw [H4.o]
 rintro e w4 ⟨rfl,hA⟩
 have GI:Hid (IB q {f with word:=2} sc sd sn si w4):=hA.2.blk HI.o (by omega)
 have GA:=hdd (HA.o.trans hA)
 clear hA
 clear HI
 clear HA
 revert GI GA;intro HI HA
 go_wp2_with fail
 first|go_end0|refine bodyPost_ret (results_none rfl _ _ _) rfl ?_
 exact ⟨rfl,HI.o,HA.o⟩
theorem unit_any (E:Env) (b:Nat) (s:St) (W:World) (h:PW E b s W) (q:Nat) (n:Bytes) (p:Nat) (hI:IB q {flat0 with kind:=3,name:=n,pos:=p} nil nil nil nil W) (hq:b<q):
  Calls Tryd.prog 47 #[.pointer (some ⟨b,0,none⟩),.pointer (some ⟨q,0,none⟩)] W fun e w'=>e= .returned (.tuple #[])∧IB q {(unitR n s).1 with pos:=p} nil nil nil nil w'∧After2 E b q (unitR n s).2 W w':=by
 rcases jv9 [103,111,111,100,115] s with ⟨s1,h1⟩|h1
 ·rcases jv9 [61] s1 with ⟨s2,h2⟩|h2
  ·obtain ⟨r,s3,h3⟩: ∃x s',Pr.ratio s2=(x,s'):=⟨_,_,rfl⟩
   obtain ⟨u,s4,h4⟩: ∃x s',name s3=(x,s'):=⟨_,_,rfl⟩
   obtain ⟨u5,s5,h5⟩: ∃x s',expect [[59]] s4=(x,s'):=⟨_,_,rfl⟩
   have hp:unitR n s=({flat0 with kind:=3,name:=n,word:=1,num:=r,unit:=u},s5):=(jz1 h1).trans ((jz1 h2).trans ((jq3 h3).trans ((jq3 h4).trans ((jx1 h5).trans (rfl)))))
   rw [hp]
   exact unit_p1 E b s W h q _ nil nil nil nil hI hq s1 s2 r s3 u s4 u5 s5 h1 h2 h3 h4 h5
  ·obtain ⟨u3,s3,h3⟩: ∃x s',expect [[59]] s1=(x,s'):=⟨_,_,rfl⟩
   have hp:unitR n s=({flat0 with kind:=3,name:=n,word:=1,num:=⟨0,0⟩,unit:= []},s3):=(jz1 h1).trans ((jx9 h2).trans ((jx1 h3).trans (rfl)))
   rw [hp]
   exact unit_p2 E b s W h q _ nil nil nil nil hI hq s1 u3 s3 h1 h2 h3
 ·obtain ⟨u2,s2,h2⟩: ∃x s',expect [[109,111,110,101,121]] s=(x,s'):=⟨_,_,rfl⟩
  rcases jv9 [61] s2 with ⟨s3,h3⟩|h3
  ·obtain ⟨r,s4,h4⟩: ∃x s',Pr.ratio s3=(x,s'):=⟨_,_,rfl⟩
   obtain ⟨u,s5,h5⟩: ∃x s',name s4=(x,s'):=⟨_,_,rfl⟩
   obtain ⟨u6,s6,h6⟩: ∃x s',expect [[59]] s5=(x,s'):=⟨_,_,rfl⟩
   have hp:unitR n s=({flat0 with kind:=3,name:=n,word:=2,num:=r,unit:=u},s6):=(jx9 h1).trans ((jx1 h2).trans ((jz1 h3).trans ((jq3 h4).trans ((jq3 h5).trans ((jx1 h6).trans (rfl))))))
   rw [hp]
   exact unit_p3 E b s W h q _ nil nil nil nil hI hq u2 s2 s3 r s4 u s5 u6 s6 h1 h2 h3 h4 h5 h6
  ·obtain ⟨u4,s4,h4⟩: ∃x s',expect [[59]] s2=(x,s'):=⟨_,_,rfl⟩
   have hp:unitR n s=({flat0 with kind:=3,name:=n,word:=2,num:=⟨0,0⟩,unit:= []},s4):=(jx9 h1).trans ((jx1 h2).trans ((jx9 h3).trans ((jx1 h4).trans (rfl))))
   rw [hp]
   exact unit_p4 E b s W h q _ nil nil nil nil hI hq u2 s2 u4 s4 h1 h2 h3 h4
end Go.Proofs.YtfaflipphkoiiaaDoor.Rp
