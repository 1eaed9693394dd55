/-
  The parser in memory; what its methods ok, fail, is and isKind return. What the parser's methods accept, expect, take, name and number return. What the parser's methods name, number, ratio, date, days and span return. Items in memory: their cells, the rows of their lists.
-/
import Derived.Test.YtfaflipphkoiiaaDoorMem
import Derived.Test.YtfaflipphkoiiaaDoorParPlain
import Derived.Test.YtfaflipphkoiiaaDoorProg
import Derived.Outline
import Derived.WalkLawsBesides
import Derived.RegionTactic
import Derived.ChangeAlike
import Derived.BigRegion
import Derived.Deep.RegionHeld3
import Derived.Deep.DrawnRows
import Derived.Deep.MidRow
set_option maxHeartbeats 64000000
set_option maxRecDepth 100000
set_option linter.unusedVariables false
namespace Go.Proofs.YtfaflipphkoiiaaDoor.Pr
open Go.RowKit Mem
open Lx (Tok)
structure Env where
 ts:List Tok
 A:Option Addr
 cap:Nat
 size:Nat
def wdays:List Bytes:= [[109,111,110],[116,117,101],[119,101,100],[116,104,117],[102,114,105],[115,97,116],[115,117,110]]
def Wk (W:World):Prop:= ∀i x,wdays[i]?=some x→W.cell? ⟨0,i,none⟩=some (.string ⟨x.toArray⟩)
def PTok (E:Env) (b:Nat) (W:World):Prop:=(0<b∧Wk W)∧(
 0<E.ts.length→ ∃g o,E.A=some ⟨g,o,none⟩∧g<b∧ ∀i (h:i<E.ts.length),W.cell? ⟨g,o+i*4,none⟩=some (.int .i64 (E.ts[i].kind:Int))∧W.cell? ⟨g,o+i*4+1,none⟩=some (.string ⟨E.ts[i].text.toArray⟩)∧
  W.cell? ⟨g,o+i*4+2,none⟩=some (.int .i64 (E.ts[i].n:Int))∧W.cell? ⟨g,o+i*4+3,none⟩=some (.int .i64 (E.ts[i].pos:Int)))
def pcells (E:Env) (n:Nat) (s:St):Array Value:= #[.slice E.A E.ts.length E.cap,.int .i64 (n:Int),.int .i64 (E.size:Int),.int .i64 (s.items:Int),.int .i64 (s.err:Int),.int .i64 (atOf E.size s:Int)]
def PW (E:Env) (b:Nat) (s:St) (W:World):Prop:=
 E.ts.length≤5000∧s.items≤600∧b<W.heap.size∧PTok E b W∧ ∃n,n≤E.ts.length∧s.rest=E.ts.drop n∧W.heap[b]?=some (.cells (pcells E n s) 67 (0,0))
theorem PTok.fr {E:Env} {b:Nat} {W W':World} {S:Nat→Prop} (h:PTok E b W) (hl:b<W.heap.size) (hf:Fr S W W') (hS: ∀k,k<b→ ¬S k):PTok E b W':=by
 refine ⟨⟨h.1.1,fun i x hx=>(World.cell?_of_block (a:=⟨0,i,none⟩) (hf.block _ (Nat.lt_trans h.1.1 hl) (hS _ h.1.1))).trans (h.1.2 i x hx)⟩,?_⟩
 intro hp
 obtain ⟨g,o,hA,hg,hc⟩:=h.2 hp
 have hb:W'.heap[g]?=W.heap[g]?:=hf.block g (by omega) (hS g hg)
 refine ⟨g,o,hA,hg,fun i hi=>?_⟩
 obtain ⟨a0,a1,a2,a3⟩:=hc i hi
 exact ⟨(World.cell?_of_block hb).trans a0,(World.cell?_of_block hb).trans a1,(World.cell?_of_block hb).trans a2,(World.cell?_of_block hb).trans a3⟩
theorem PW.fr {E:Env} {b:Nat} {s:St} {W W':World} {S:Nat→Prop} (h:PW E b s W) (hf:Fr S W W') (hS: ∀k,k≤b→ ¬S k):PW E b s W':=by
 obtain ⟨h1,h2,h3,h4,n,h5,h6,h7⟩:=h
 exact ⟨h1,h2,Nat.lt_of_lt_of_le h3 hf.size,h4.fr h3 hf (fun k hk=>hS k (by omega)),n,h5,h6,hf.blk h7 (hS b (Nat.le_refl _))⟩
theorem PW.drewN {E:Env} {b:Nat} {s:St} {W:World} (h:PW E b s W) (n:Nat):PW E b s (W.drewN n):=h.fr (S:=fun _=>False) ((Fr.refl _ _).drewN n) (fun _ _ h=>h)
theorem PW.cells {E:Env} {b:Nat} {s:St} {W:World} (h:PW E b s W): ∃n,n≤E.ts.length∧s.rest=E.ts.drop n∧W.cell? ⟨b,0,none⟩=some (.slice E.A E.ts.length E.cap)∧W.cell? ⟨b,1,none⟩=some (.int .i64 (n:Int))∧W.cell? ⟨b,2,none⟩=some (.int .i64 (E.size:Int))∧
  W.cell? ⟨b,3,none⟩=some (.int .i64 (s.items:Int))∧W.cell? ⟨b,4,none⟩=some (.int .i64 (s.err:Int))∧W.cell? ⟨b,5,none⟩=some (.int .i64 (atOf E.size s:Int)):=by
 obtain ⟨_,_,_,_,n,h1,h2,h3⟩:=h
 exact ⟨n,h1,h2,jq0 h3 0,jq0 h3 1,jq0 h3 2,jq0 h3 3,jq0 h3 4,jq0 h3 5⟩
theorem jz2 {ts r:List Tok} {n:Nat} {t:Tok} (h:t::r=ts.drop n): ∃hn:n<ts.length,ts[n]=t∧r=ts.drop (n+1):=by
 have hn:n<ts.length:=by
  rcases Nat.lt_or_ge n ts.length with h1|h1
  ·exact h1
  ·rw [List.drop_eq_nil_of_le h1] at h;cases h
 rw [List.drop_eq_getElem_cons hn] at h
 injection h with h1 h2
 exact ⟨hn,h1.symm,h2⟩
theorem drop_nil {ts:List Tok} {n:Nat} (h: []=ts.drop n) (hn:n≤ts.length):n=ts.length:=by
 have:=congrArg List.length h
 simp at this
 omega
theorem ok_any (E:Env) (b:Nat) (s:St) (W:World) (h:PW E b s W):
  Calls Tryd.prog 38 #[.pointer (some ⟨b,0,none⟩)] W fun e w'=>e= .returned (.bool (s.err==0))∧w'=W:=by
 obtain ⟨n,h1,h2,c0,c1,c2,c3,c4,c5⟩:=h.cells
 have HP:=hdd h;clear h h1 h2
 go_enter Tryd.func38,Tryd.ntmps38
 go_wp2_with fail
 go_ret
 exact ⟨ret_bool (by rw [Bool.eq_iff_iff];simp),rfl⟩
theorem ok_yes (E:Env) (b:Nat) (s:St) (W:World) (h:PW E b s W) (he:s.err=0):
  Calls Tryd.prog 38 #[.pointer (some ⟨b,0,none⟩)] W fun e w'=>e= .returned (.bool true)∧w'=W:=by
 have:=ok_any E b s W h;rw [he] at this;exact this
theorem ok_no (E:Env) (b:Nat) (s:St) (W:World) (h:PW E b s W) (he:s.err≠0):
  Calls Tryd.prog 38 #[.pointer (some ⟨b,0,none⟩)] W fun e w'=>e= .returned (.bool false)∧w'=W:=by
 have:=ok_any E b s W h;rw [beq_eq_false_iff_ne.2 he] at this;exact this
theorem is_any (E:Env) (b:Nat) (s:St) (x:Bytes) (W:World) (h:PW E b s W):
  Calls Tryd.prog 87 #[.pointer (some ⟨b,0,none⟩),.string ⟨x.toArray⟩] W fun e w'=>e= .returned (.bool (isT x s))∧ ∃m,w'=W.drewN m:=by
 obtain ⟨n,h1,h2,c0,c1,c2,c3,c4,c5⟩:=h.cells
 have hl:=h.1
 have HP:=hdd h;clear h
 by_cases he:s.err=0
 ·cases hr:s.rest with
  |nil=>
   have hv:isT x s=false:=by simp [isT,hr]
   rw [hr] at h2
   have hn:=drop_nil h2 h1
   rw [hv]
   have HE:=hdd he;clear he
   have HR:=hdd hr;clear hr hv h2
   have hlt:decide (n<E.ts.length)=false:=decide_eq_false (by omega)
   have HN:=hdd hn;clear hn
   go_enter Tryd.func87,Tryd.ntmps87
   go_wp2_with fail
   go_quiet ((go_at_call 38;exact Calls.quiet_of_same (ok_yes E b s _ (HP.o.drewN _) HE.o)))
   go_wp2_with fail
   go_ret
   exact ⟨rfl,_,rfl⟩
  |cons t r=>
   rw [hr] at h2
   obtain ⟨hn,ht,hr2⟩:=jz2 h2
   obtain ⟨g,o,hA,hg,hc⟩:=HP.o.2.2.2.1.2 (by omega)
   obtain ⟨q0,q1,q2,q3⟩:=hc n hn
   have hv:isT x s=(t.text==x):=by simp [isT,hr,he]
   rw [hv]
   rw [ht] at q0 q1 q2 q3
   have HE:=hdd he;clear he
   have HR:=hdd hr;clear hr hv h2 hr2 ht hc
   rw [hA] at c0
   have i1:(0:Int)≤(n:Int):=Int.natCast_nonneg _
   have i2:(n:Int)<(E.ts.length:Int):=by omega
   have HA:=hdd hA;clear hA
   go_enter Tryd.func87,Tryd.ntmps87
   go_wp2_with fail
   go_quiet ((go_at_call 38;exact Calls.quiet_of_same (ok_yes E b s _ (HP.o.drewN _) HE.o)))
   go_wp2_with fail
   go_ret
   exact ⟨rfl,_,rfl⟩
 ·have hv:isT x s=false:=by simp [isT,he]
  rw [hv]
  have HE:=hdd he;clear he hv
  go_enter Tryd.func87,Tryd.ntmps87
  go_wp2_with fail
  go_quiet ((go_at_call 38;exact Calls.quiet_of_same (ok_no E b s _ (HP.o.drewN _) HE.o)))
  go_wp2_with fail
  go_ret
  exact ⟨rfl,_,rfl⟩
theorem jz7 (E:Env) (b:Nat) (s:St) (x:Nat) (W:World) (h:PW E b s W):
  Calls Tryd.prog 70 #[.pointer (some ⟨b,0,none⟩),.int .i64 (x:Int)] W fun e w'=>e= .returned (.bool (isK x s))∧ ∃m,w'=W.drewN m:=by
 obtain ⟨n,h1,h2,c0,c1,c2,c3,c4,c5⟩:=h.cells
 have hl:=h.1
 have HP:=hdd h;clear h
 by_cases he:s.err=0
 ·cases hr:s.rest with
  |nil=>
   have hv:isK x s=false:=by simp [isK,hr]
   rw [hr] at h2
   have hn:=drop_nil h2 h1
   rw [hv]
   have HE:=hdd he;clear he
   have HR:=hdd hr;clear hr hv h2
   have hlt:decide (n<E.ts.length)=false:=decide_eq_false (by omega)
   have HN:=hdd hn;clear hn
   go_enter Tryd.func70,Tryd.ntmps70
   go_wp2_with fail
   go_quiet ((go_at_call 38;exact Calls.quiet_of_same (ok_yes E b s _ (HP.o.drewN _) HE.o)))
   go_wp2_with fail
   go_ret
   exact ⟨rfl,_,rfl⟩
  |cons t r=>
   rw [hr] at h2
   obtain ⟨hn,ht,hr2⟩:=jz2 h2
   obtain ⟨g,o,hA,hg,hc⟩:=HP.o.2.2.2.1.2 (by omega)
   obtain ⟨q0,q1,q2,q3⟩:=hc n hn
   have hv:isK x s=(t.kind==x):=by simp [isK,hr,he]
   rw [hv]
   rw [ht] at q0 q1 q2 q3
   have HE:=hdd he;clear he
   have HR:=hdd hr;clear hr hv h2 hr2 ht hc
   rw [hA] at c0
   have i1:(0:Int)≤(n:Int):=Int.natCast_nonneg _
   have i2:(n:Int)<(E.ts.length:Int):=by omega
   have HA:=hdd hA;clear hA
   go_enter Tryd.func70,Tryd.ntmps70
   go_wp2_with fail
   go_quiet ((go_at_call 38;exact Calls.quiet_of_same (ok_yes E b s _ (HP.o.drewN _) HE.o)))
   go_wp2_with fail
   go_ret
   exact ⟨ret_bool (by rw [Bool.eq_iff_iff];simp;omega),_,rfl⟩
 ·have hv:isK x s=false:=by simp [isK,he]
  rw [hv]
  have HE:=hdd he;clear he hv
  go_enter Tryd.func70,Tryd.ntmps70
  go_wp2_with fail
  go_quiet ((go_at_call 38;exact Calls.quiet_of_same (ok_no E b s _ (HP.o.drewN _) HE.o)))
  go_wp2_with fail
  go_ret
  exact ⟨rfl,_,rfl⟩
theorem mod_PW {E:Env} {b:Nat} {s:St} {W:World} (h:PW E b s W) {s':St} {n':Nat} {W':World} (hf:Fr (fun k=>k=b) W W') (hi:s'.items≤600) (hn:n'≤E.ts.length) (hr:s'.rest=E.ts.drop n')
  (hb:W'.heap[b]?=some (.cells (pcells E n' s') 67 (0,0))):PW E b s' W':=
 ⟨h.1,hi,Nat.lt_of_lt_of_le h.2.2.1 hf.size,h.2.2.2.1.fr h.2.2.1 hf (fun k hk e=>by omega),n',hn,hr,hb⟩
theorem set_err {E:Env} {b n:Nat} {s:St} {W:World} (h:W.heap[b]?=some (.cells (pcells E n s) 67 (0,0))) (er a:Nat) (s':St) (hi:s'.items=s.items) (he:s'.err=er) (ha:atOf E.size s'=a):
  ((W.setCell ⟨b,4,none⟩ (.int .i64 er)).setCell ⟨b,5,none⟩ (.int .i64 a)).heap[b]?=some (.cells (pcells E n s') 67 (0,0)):=by
 have:=jx4 (jx4 h 4 (.int .i64 er)) 5 (.int .i64 a)
 subst he ha
 unfold pcells
 rw [hi]
 exact this
theorem set_err' {E:Env} {b n:Nat} {s:St} {W:World} (h:W.heap[b]?=some (.cells (pcells E n s) 67 (0,0))) (er a:Nat) (s':St) (hi:s'.items=s.items) (he:s'.err=er) (ha:atOf E.size s'=a):
  ((W.setCell ⟨b,5,none⟩ (.int .i64 a)).setCell ⟨b,4,none⟩ (.int .i64 er)).heap[b]?=some (.cells (pcells E n s') 67 (0,0)):=by
 have:=jx4 (jx4 h 5 (.int .i64 a)) 4 (.int .i64 er)
 subst he ha
 unfold pcells
 rw [hi]
 exact this
theorem set_next {E:Env} {b n:Nat} {s:St} {W:World} (h:W.heap[b]?=some (.cells (pcells E n s) 67 (0,0))) (he:s.err=0):
  (W.setCell ⟨b,1,none⟩ (.int .i64 ((n:Int)+1))).heap[b]?=some (.cells (pcells E (n+1) {s with rest:=s.rest.tail}) 67 (0,0)):=by
 have:=jx4 h 1 (.int .i64 ((n:Int)+1))
 have e:atOf E.size {s with rest:=s.rest.tail}=atOf E.size s:=by simp [atOf,he]
 unfold pcells
 rw [e]
 exact this
theorem fail_any (E:Env) (b:Nat) (s:St) (W:World) (h:PW E b s W):
  Calls Tryd.prog 58 #[.pointer (some ⟨b,0,none⟩)] W fun e w'=>e= .returned (.tuple #[])∧PW E b (fail s).2 w'∧Fr (fun k=>k=b) W w':=by
 obtain ⟨_,hit,hbl,hpt,n,h1,h2,hblk⟩:=id h
 have c0:W.cell? ⟨b,0,none⟩=some (.slice E.A E.ts.length E.cap):=jq0 hblk 0
 have c1:W.cell? ⟨b,1,none⟩=some (.int .i64 (n:Int)):=jq0 hblk 1
 have c2:W.cell? ⟨b,2,none⟩=some (.int .i64 (E.size:Int)):=jq0 hblk 2
 have c4:W.cell? ⟨b,4,none⟩=some (.int .i64 (s.err:Int)):=jq0 hblk 4
 have c5:W.cell? ⟨b,5,none⟩=some (.int .i64 (atOf E.size s:Int)):=jq0 hblk 5
 have f4:W.frozen? ⟨b,4,none⟩=false:=jq1 hblk 4
 have f5:W.frozen? ⟨b,5,none⟩=false:=jq1 hblk 5
 have hl:=h.1
 have HP:=hdd h;clear h
 have HBLK:=hdd hblk;clear hblk
 have HPT:=hdd hpt;clear hpt
 by_cases he:s.err=0
 ·cases hr:s.rest with
  |nil=>
   have hv:(fail s).2= {s with err:=7}:=by simp [fail,hr,he]
   have hat:atOf E.size {s with err:=7}=E.size:=by simp [atOf]
   rw [hr] at h2
   have hn:=drop_nil h2 h1
   rw [hv]
   have HE:=hdd he;clear he
   have HR:=hdd hr
   rw [←hr] at h2
   have HH2:=hdd h2;clear hr hv h2
   have HAT:=hdd hat;clear hat
   have hlt:decide (n<E.ts.length)=false:=decide_eq_false (by omega)
   have HN:=hdd hn;clear hn
   go_enter Tryd.func58,Tryd.ntmps58
   go_wp2_with (go_at_call 38;refine (ok_yes E b s _ HP.o HE.o).mono ?_;rintro e w' ⟨rfl,rfl⟩)
   go_quiet (fail)
   go_wp2_with fail
   go_end0
   have hfr:Fr (fun k=>k=b) w' (((w'.drewN nq).setCell ⟨b,4,none⟩ (.int .i64 7)).setCell ⟨b,5,none⟩ (.int .i64 (E.size:Int))):=(((Fr.refl _ _).drewN nq).setb 4 _).setb 5 _
   exact ⟨rfl,mod_PW HP.o hfr hit (by omega) (by rw [HH2.o]) (set_err (W:=w'.drewN nq) HBLK.o 7 E.size {s with err:=7} rfl rfl HAT.o),hfr⟩
  |cons t r=>
   rw [hr] at h2
   obtain ⟨hn,ht,hr2⟩:=jz2 h2
   obtain ⟨g,o,hA,hg,hc⟩:=HPT.o.2 (by omega)
   obtain ⟨q0,q1,q2,q3⟩:=hc n hn
   rw [ht] at q0 q1 q2 q3
   have hv:(fail s).2= {s with err:=6}:=by simp [fail,hr,he]
   have hat:atOf E.size {s with err:=6}=t.pos:=by simp [atOf,hr]
   rw [hv]
   have HE:=hdd he;clear he
   have HR:=hdd hr;clear hr hv hr2 ht hc
   rw [←HR.o] at h2
   have HH2:=hdd h2;clear h2
   have HAT:=hdd hat;clear hat
   rw [hA] at c0
   have i1:(0:Int)≤(n:Int):=Int.natCast_nonneg _
   have i2:(n:Int)<(E.ts.length:Int):=by omega
   have HA:=hdd hA;clear hA
   go_enter Tryd.func58,Tryd.ntmps58
   go_wp2_with (go_at_call 38;refine (ok_yes E b s _ HP.o HE.o).mono ?_;rintro e w' ⟨rfl,rfl⟩)
   go_quiet (fail)
   go_wp2_with fail
   go_region_held3 (fun w'=>w'.cell? ⟨b,0,none⟩=some (.slice (some ⟨g,o,none⟩) E.ts.length E.cap)∧w'.cell? ⟨b,1,none⟩=some (.int .i64 (n:Int))∧w'.cell? ⟨g,o+n*4+3,none⟩=some (.int .i64 (t.pos:Int))) (first|go_keep|(go_split_ands;refine ⟨?_,?_,?_⟩<;>first|assumption|(rw [far_off (by decide)];assumption)|(rw [jz0 (by omega)];assumption))) (fail)
   all_goals
    go_wp2_with fail
    have hfr:Fr (fun k=>k=b) w' (((w'.drewN (nq+1)).setCell ⟨b,4,none⟩ (.int .i64 6)).setCell ⟨b,5,none⟩ (.int .i64 (t.pos:Int))):=(((Fr.refl _ _).drewN (nq+1)).setb 4 _).setb 5 _
    exact bodyPost_ret (results_none rfl _ _ _) rfl ⟨rfl,mod_PW HP.o hfr hit (by omega) (by rw [HH2.o]) (set_err (W:=w'.drewN (nq+1)) HBLK.o 6 t.pos {s with err:=6} rfl rfl HAT.o),hfr⟩
 ·have hv:(fail s).2=s:=by simp [fail,he]
  rw [hv]
  have HE:=hdd he;clear he hv
  go_enter Tryd.func58,Tryd.ntmps58
  go_wp2_with (go_at_call 38;refine (ok_no E b s _ HP.o HE.o).mono ?_;rintro e w' ⟨rfl,rfl⟩)
  exact bodyPost_ret (results_none rfl _ _ _) rfl ⟨rfl,HP.o,Fr.refl _ _⟩
end Go.Proofs.YtfaflipphkoiiaaDoor.Pr
namespace Go.Proofs.YtfaflipphkoiiaaDoor.Pr
open Go.RowKit Mem
open Lx (Tok)
def After (E:Env) (b:Nat) (s:St) (W w':World):Prop:=PW E b s w'∧Fr (fun k=>k=b) W w'
theorem After.trans {E:Env} {b:Nat} {s s':St} {W W1 W2:World} (h:After E b s W W1) (h2:After E b s' W1 W2):After E b s' W W2:=⟨h2.1,h.2.trans h2.2⟩
theorem After.start {E:Env} {b:Nat} {s:St} {W:World} (h:PW E b s W):After E b s W W:=⟨h,Fr.refl _ _⟩
theorem After.drewN {E:Env} {b:Nat} {s:St} {W W1:World} (h:After E b s W W1) (n:Nat):After E b s W (W1.drewN n):=⟨h.1.drewN n,h.2.drewN n⟩
theorem isT_err {x:Bytes} {s:St} (h:isT x s=true):s.err=0∧ ∃t r,s.rest=t::r∧t.text=x:=by
 unfold isT at h
 simp only [Bool.and_eq_true,beq_iff_eq] at h
 refine ⟨h.1,?_⟩
 cases hr:s.rest with
 |nil=>rw [hr] at h;simp at h
 |cons t r=>rw [hr] at h;exact ⟨t,r,rfl,by simpa using h.2⟩
theorem isK_err {x:Nat} {s:St} (h:isK x s=true):s.err=0∧ ∃t r,s.rest=t::r∧t.kind=x:=by
 unfold isK at h
 simp only [Bool.and_eq_true,beq_iff_eq] at h
 refine ⟨h.1,?_⟩
 cases hr:s.rest with
 |nil=>rw [hr] at h;simp at h
 |cons t r=>rw [hr] at h;exact ⟨t,r,rfl,by simpa using h.2⟩
theorem jx0 (E:Env) (b:Nat) (s:St) (x:Bytes) (W:World) (h:PW E b s W):
  Calls Tryd.prog 57 #[.pointer (some ⟨b,0,none⟩),.string ⟨x.toArray⟩] W fun e w'=>e= .returned (.bool (acc x s).1)∧After E b (acc x s).2 W w':=by
 cases hi:isT x s with
 |false=>
  have e:acc x s=(false,s):=by simp [acc,hi]
  rw [e]
  have HI:=hdd hi
  have HP:=hdd h;clear h hi e
  go_enter Tryd.func57,Tryd.ntmps57
  go_wp2_with fail
  refine (is_any E b s x _ HP.o).mono ?_
  rw [HI.o]
  rintro e w1 ⟨rfl,m,rfl⟩
  go_wp2_with fail
  go_ret
  exact ⟨rfl,(After.start HP.o).drewN m⟩
 |true=>
  have e:acc x s=(true,{s with rest:=s.rest.tail}):=by simp [acc,hi]
  rw [e]
  obtain ⟨he,t,r,hr,ht⟩:=isT_err hi
  obtain ⟨_,hit,hbl,hpt,n,h1,h2,hblk⟩:=id h
  have c1:W.cell? ⟨b,1,none⟩=some (.int .i64 (n:Int)):=jq0 hblk 1
  have f1:W.frozen? ⟨b,1,none⟩=false:=jq1 hblk 1
  have hl:=h.1
  have hd:t::r=E.ts.drop n:=by rw [←hr];exact h2
  obtain ⟨hn,_,hr2⟩:=jz2 hd
  have HRR:Hid (s.rest.tail=E.ts.drop (n+1)):=by show _=_;rw [hr];exact hr2
  have HE:=hdd he
  have HI:=hdd hi
  have HP:=hdd h
  have HB:=hdd hblk
  clear e he hr ht h2 hd hr2 hi h hpt hblk
  go_enter Tryd.func57,Tryd.ntmps57
  go_wp2_with fail
  refine (is_any E b s x _ HP.o).mono ?_
  rw [HI.o]
  rintro e w1 ⟨rfl,m,rfl⟩
  go_wp2_with fail
  go_ret
  have hfr:Fr (fun k=>k=b) W ((W.drewN m).setCell ⟨b,1,none⟩ (.int .i64 ((n:Int)+1))):=((Fr.refl _ _).drewN m).setb 1 _
  exact ⟨rfl,mod_PW HP.o hfr hit (by omega) HRR.o (set_next (W:=W.drewN m) HB.o HE.o),hfr⟩
theorem expect_cons (x:Bytes) (r:List Bytes) (s:St):expect (x::r) s=if (acc x s).1 then expect r (acc x s).2 else fail (acc x s).2:=by
 show bnd (acc x) (fun b=>if b then expect r else fail) s=_
 unfold bnd
 cases (acc x s).1<;>rfl
theorem expect_any (E:Env) (b:Nat) (s:St) (xs:List Bytes) (g o cap:Nat) (W:World) (h:PW E b s W) (hl:xs.length≤100) (hg:b<g) (hr: ∀i (h:i<xs.length),W.cell? ⟨g,o+i,none⟩=some (.string ⟨xs[i].toArray⟩)) (hgl:g<W.heap.size):
  Calls Tryd.prog 33 #[.pointer (some ⟨b,0,none⟩),.slice (some ⟨g,o,none⟩) xs.length cap] W fun e w'=>e= .returned (.tuple #[])∧After E b (expect xs s).2 W w':=by
 have HP:=hdd h;clear h
 have HR:=hdd hr;clear hr
 obtain ⟨R,hR⟩: ∃R,(expect xs s).2=R:=⟨_,rfl⟩
 rw [hR]
 have HRR:=hdd hR;clear hR
 go_enter Tryd.func33,Tryd.ntmps33
 go_wp2_with fail
 go_loopw [8] (fun i wr=> ∃(j:Nat) (s':St),i= .int .i64 j∧j≤xs.length∧Hid ((expect (xs.drop j) s').2=R)∧Hid (After E b s' W wr)) (fun i _=>xs.length-(intOf i).toNat)
 case atStart=>exact ⟨0,s,rfl,by omega,HRR,After.start HP.o⟩
 case round=>
  obtain ⟨j,s',rfl,hj,HX,HA⟩:=hrel
  by_cases hlt:j<xs.length
  ·have c0:wr.cell? ⟨g,o+j,none⟩=some (.string ⟨xs[j].toArray⟩):=(World.cell?_of_block (HA.o.2.block g hgl (by omega))).trans (HR.o j hlt)
   have hx:=HX.o
   rw [List.drop_eq_getElem_cons hlt,expect_cons] at hx
   have HX2:=hdd hx;clear hx
   generalize xs[j]=x at*
   cases ha:(acc x s').1 with
   |true=>
    have HX3:Hid ((expect (xs.drop (j+1)) (acc x s').2).2=R):=by have:=HX2.o;rw [ha] at this;exact this
    have HAA:=hdd ha;clear ha
    go_wp2_with fail
    refine (jx0 E b s' x _ HA.o.1).mono ?_
    rw [HAA.o]
    rintro e w1 ⟨rfl,hA1⟩
    have HA1:=hdd (HA.o.trans hA1);clear hA1
    go_wp2_with fail
    go_roundw
    case rel=>exact ⟨j+1,_,by go_num,by omega,HX3,HA1⟩
    case measure=>simp [intOf];omega
   |false=>
    have HX3:Hid ((fail (acc x s').2).2=R):=by have:=HX2.o;rw [ha] at this;exact this
    have HAA:=hdd ha;clear ha
    go_wp2_with fail
    refine (jx0 E b s' x _ HA.o.1).mono ?_
    rw [HAA.o]
    rintro e w1 ⟨rfl,hA1⟩
    have HA1:=hdd (HA.o.trans hA1);clear hA1
    go_wp2_with fail
    refine (fail_any E b _ _ HA1.o.1).mono ?_
    rw [HX3.o]
    rintro e w2 ⟨rfl,hA2⟩
    go_wp2_with fail
    exact bodyPost_ret (results_none rfl _ _ _) rfl ⟨rfl,HA1.o.trans hA2⟩
  ·have HX3:Hid (s'=R):=by have:=HX.o;rw [List.drop_eq_nil_of_le (by omega)] at this;exact this
   go_wp2_with fail
   go_end0
   exact ⟨rfl,by rw [←HX3.o];exact HA.o⟩
theorem PW.alloc {E:Env} {b:Nat} {s:St} {W:World} (h:PW E b s W) (o:Obj):PW E b s (W.alloc o):=h.fr (S:=fun _=>False) ((Fr.refl _ _).alloc o) (fun _ _ h=>h)
theorem After.alloc {E:Env} {b:Nat} {s:St} {W W1:World} (h:After E b s W W1) (o:Obj):After E b s W (W1.alloc o):=⟨h.1.alloc o,h.2.alloc o⟩
theorem PW.set {E:Env} {b:Nat} {s:St} {W:World} (h:PW E b s W) {q i:Nat} (hq:b<q) (u:Value):PW E b s (W.setCell ⟨q,i,none⟩ u):=
 h.fr (S:=fun k=>k=q) ((Fr.refl _ _).setb i u) (fun k hk e=>by omega)
theorem After.set {E:Env} {b:Nat} {s:St} {W W1:World} (h:After E b s W W1) {q i:Nat} (hq:W.heap.size≤q) (hb:b<q) (u:Value):After E b s W (W1.setCell ⟨q,i,none⟩ u):=
 ⟨h.1.set hb u,h.2.setCell (p:=⟨q,i,none⟩) (.inr hq) u⟩
def tokVal (t:Tok):Value:= .agg #[.int .i64 (t.kind:Int),.string ⟨t.text.toArray⟩,.int .i64 (t.n:Int),.int .i64 (t.pos:Int)]
theorem far4 {W:World} {q g j:Nat} {a b c d u:Value} (h:g≠q) (hc:W.cell? ⟨g,j,none⟩=some u):((((W.setCell ⟨q,0,none⟩ a).setCell ⟨q,1,none⟩ b).setCell ⟨q,2,none⟩ c).setCell ⟨q,3,none⟩ d).drew.cell? ⟨g,j,none⟩=some u:=
 (jz0 h).trans ((jz0 h).trans ((jz0 h).trans ((jz0 h).trans hc)))
theorem take_any (E:Env) (b:Nat) (s:St) (k:Nat) (W:World) (h:PW E b s W):
  Calls Tryd.prog 59 #[.pointer (some ⟨b,0,none⟩),.int .i64 (k:Int)] W fun e w'=>e= .returned (tokVal (take k s).1)∧After E b (take k s).2 W w':=by
 have hbl:=h.2.2.1
 cases hi:isK k s with
 |false=>
  have e:take k s=(tok0,(fail s).2):=by simp [take,bnd,opt,hi,seq,ret]
  rw [e]
  have HI:=hdd hi
  have HA0:=hdd ((After.start h).alloc (.cells #[.int .i64 0,.string ⟨#[]⟩,.int .i64 0,.int .i64 0] 40));clear h hi e
  go_enter Tryd.func59,Tryd.ntmps59
  go_wp2_with fail
  refine (jz7 E b s k _ HA0.o.1).mono ?_
  rw [HI.o]
  rintro e w1 ⟨rfl,m,rfl⟩
  go_wp2_with fail
  refine (fail_any E b s _ (HA0.o.1.drewN m)).mono ?_
  rintro e w2 ⟨rfl,hA2⟩
  have HA2:=hdd ((HA0.o.drewN m).trans hA2)
  have hq:w2.heap[W.heap.size]?=some (.cells #[.int .i64 0,.string ⟨#[]⟩,.int .i64 0,.int .i64 0] 40 (0,0)):=hA2.2.blk (by exact kx5 W _) (by omega)
  have q0:w2.cell? ⟨W.heap.size,0,none⟩=some (.int .i64 0):=jq0 hq 0
  have q1:w2.cell? ⟨W.heap.size,1,none⟩=some (.string ⟨#[]⟩):=jq0 hq 1
  have q2:w2.cell? ⟨W.heap.size,2,none⟩=some (.int .i64 0):=jq0 hq 2
  have q3:w2.cell? ⟨W.heap.size,3,none⟩=some (.int .i64 0):=jq0 hq 3
  have f0:w2.frozen? ⟨W.heap.size,0,none⟩=false:=jq1 hq 0
  have f1:w2.frozen? ⟨W.heap.size,1,none⟩=false:=jq1 hq 1
  have f2:w2.frozen? ⟨W.heap.size,2,none⟩=false:=jq1 hq 2
  have f3:w2.frozen? ⟨W.heap.size,3,none⟩=false:=jq1 hq 3
  have HQ:=hdd hq;clear hq hA2
  go_wp2_with fail
  have hbk:=jx4 (jx4 (jx4 (jx4 HQ.o 0 (.int .i64 0)) 1 (.string ⟨#[]⟩)) 2 (.int .i64 0)) 3 (.int .i64 0)
  have hA3:=(((HA2.o.set (i:=0) (Nat.le_refl _) hbl (.int .i64 0)).set (i:=1) (Nat.le_refl _) hbl (.string ⟨#[]⟩)).set (i:=2) (Nat.le_refl _) hbl (.int .i64 0)).set (i:=3) (Nat.le_refl _) hbl (.int .i64 0)
  generalize (((w2.setCell ⟨W.heap.size,0,none⟩ (.int .i64 0)).setCell ⟨W.heap.size,1,none⟩ (.string ⟨#[]⟩)).setCell ⟨W.heap.size,2,none⟩ (.int .i64 0)).setCell ⟨W.heap.size,3,none⟩ (.int .i64 0)=W3 at*
  have k0:W3.cell? ⟨W.heap.size,0,none⟩=some (.int .i64 0):=jq0 hbk 0
  have k1:W3.cell? ⟨W.heap.size,1,none⟩=some (.string ⟨#[]⟩):=jq0 hbk 1
  have k2:W3.cell? ⟨W.heap.size,2,none⟩=some (.int .i64 0):=jq0 hbk 2
  have k3:W3.cell? ⟨W.heap.size,3,none⟩=some (.int .i64 0):=jq0 hbk 3
  exact bodyPost_ret (v:=tokVal tok0) (by simp [results,Tryd.results59,go_sem,k0,k1,k2,k3,tokVal,tok0]) rfl ⟨rfl,hA3⟩
 |true=>
  obtain ⟨he,t,r,hr,ht⟩:=isK_err hi
  have e:take k s=(t,{s with rest:=s.rest.tail}):=by simp [take,bnd,opt,hi,ret,hr]
  rw [e]
  obtain ⟨_,hit,_,hpt,n,h1,h2,hblk⟩:=id h
  have hl:=h.1
  have hd:t::r=E.ts.drop n:=by rw [←hr];exact h2
  obtain ⟨hn,hti,hr2⟩:=jz2 hd
  obtain ⟨g,o,hA,hg,hc⟩:=hpt.2 (by omega)
  obtain ⟨q0,q1,q2,q3⟩:=hc n hn
  rw [hti] at q0 q1 q2 q3
  have hrr:s.rest.tail=E.ts.drop (n+1):=by rw [hr];exact hr2
  have HRR:=hdd hrr
  have HE:=hdd he
  have HI:=hdd hi
  have HB:=hdd hblk
  have HPW:=hdd h
  have HA0:=hdd ((After.start h).alloc (.cells #[.int .i64 0,.string ⟨#[]⟩,.int .i64 0,.int .i64 0] 40))
  have HG:=hdd hA
  have d1: ∀ob,(W.alloc ob).cell? ⟨b,1,none⟩=some (.int .i64 (n:Int)):=fun ob=>jq0 (jq9 hblk ob) 1
  have f1: ∀ob,(W.alloc ob).frozen? ⟨b,1,none⟩=false:=fun ob=>jq1 (jq9 hblk ob) 1
  clear e he hr ht h2 hd hr2 hi h hpt hblk hti hc hrr hA
  go_enter Tryd.func59,Tryd.ntmps59
  go_wp2_with fail
  refine (jz7 E b s k _ HA0.o.1).mono ?_
  rw [HI.o]
  rintro e w1 ⟨rfl,m,rfl⟩
  go_wp2_with fail
  have hfr:Fr (fun k=>k=b) W (((W.alloc (.cells #[.int .i64 0,.string ⟨#[]⟩,.int .i64 0,.int .i64 0] 40)).drewN m).setCell ⟨b,1,none⟩ (.int .i64 ((n:Int)+1))):=(((Fr.refl _ _).alloc _).drewN m).setb 1 _
  have hbk:=set_next (W:=(W.alloc (.cells #[.int .i64 0,.string ⟨#[]⟩,.int .i64 0,.int .i64 0] 40)).drewN m) (jq9 HB.o _) HE.o
  have hA2:After E b {s with rest:=s.rest.tail} W (((W.alloc (.cells #[.int .i64 0,.string ⟨#[]⟩,.int .i64 0,.int .i64 0] 40)).drewN m).setCell ⟨b,1,none⟩ (.int .i64 ((n:Int)+1))):=⟨mod_PW HPW.o hfr hit (by omega) HRR.o hbk,hfr⟩
  have hq:(((W.alloc (.cells #[.int .i64 0,.string ⟨#[]⟩,.int .i64 0,.int .i64 0] 40)).drewN m).setCell ⟨b,1,none⟩ (.int .i64 ((n:Int)+1))).heap[W.heap.size]?=some (.cells #[.int .i64 0,.string ⟨#[]⟩,.int .i64 0,.int .i64 0] 40 (0,0)):=blk_far (w:=(W.alloc _).drewN m) (kx5 W _) (by show W.heap.size≠b;omega) _
  have hgb:=hfr.block g (by omega) (by omega)
  generalize (((W.alloc (.cells #[.int .i64 0,.string ⟨#[]⟩,.int .i64 0,.int .i64 0] 40)).drewN m).setCell ⟨b,1,none⟩ (.int .i64 ((n:Int)+1)))=W2 at*
  have p0:=(World.cell?_of_block (a:=⟨g,o+n*4,none⟩) hgb).trans q0
  have p1:=(World.cell?_of_block (a:=⟨g,o+n*4+1,none⟩) hgb).trans q1
  have p2:=(World.cell?_of_block (a:=⟨g,o+n*4+2,none⟩) hgb).trans q2
  have p3:=(World.cell?_of_block (a:=⟨g,o+n*4+3,none⟩) hgb).trans q3
  have c0:W2.cell? ⟨b,0,none⟩=some (.slice (some ⟨g,o,none⟩) E.ts.length E.cap):=by rw [←HG.o];exact jq0 hbk 0
  have c1:W2.cell? ⟨b,1,none⟩=some (.int .i64 ((n:Int)+1)):=jq0 hbk 1
  have z0:W2.cell? ⟨W.heap.size,0,none⟩=some (.int .i64 0):=jq0 hq 0
  have z1:W2.cell? ⟨W.heap.size,1,none⟩=some (.string ⟨#[]⟩):=jq0 hq 1
  have z2:W2.cell? ⟨W.heap.size,2,none⟩=some (.int .i64 0):=jq0 hq 2
  have z3:W2.cell? ⟨W.heap.size,3,none⟩=some (.int .i64 0):=jq0 hq 3
  have f0:W2.frozen? ⟨W.heap.size,0,none⟩=false:=jq1 hq 0
  have f1:W2.frozen? ⟨W.heap.size,1,none⟩=false:=jq1 hq 1
  have f2:W2.frozen? ⟨W.heap.size,2,none⟩=false:=jq1 hq 2
  have f3:W2.frozen? ⟨W.heap.size,3,none⟩=false:=jq1 hq 3
  have HQ:=hdd hq
  have HA2:=hdd hA2
  clear hq hA2 hbk hgb hfr q0 q1 q2 q3 d1
  have HN1:Hid (b≠W.heap.size):=by show _≠_;omega
  have HN2:Hid (g≠W.heap.size):=by show _≠_;omega
  have hw1:IntKind.i64.wrap ((n:Int)+1-1)=n:=by rw [IntWalk.i64_in _ (by omega)];omega
  have hw2:IntKind.i64.wrap (n:Int)=n:=IntWalk.i64_in _ (by omega)
  have i1:(0:Int)≤(n:Int):=Int.natCast_nonneg _
  have i2:(n:Int)<(E.ts.length:Int):=by omega
  go_region_held3 (fun w'=>w'.cell? ⟨b,0,none⟩=some (.slice (some ⟨g,o,none⟩) E.ts.length E.cap)∧w'.cell? ⟨b,1,none⟩=some (.int .i64 ((n:Int)+1))∧w'.cell? ⟨g,o+n*4,none⟩=some (.int .i64 (t.kind:Int))∧w'.cell? ⟨g,o+n*4+1,none⟩=some (.string ⟨t.text.toArray⟩)∧w'.cell? ⟨g,o+n*4+2,none⟩=some (.int .i64 (t.n:Int))∧w'.cell? ⟨g,o+n*4+3,none⟩=some (.int .i64 (t.pos:Int))) (first|exact ⟨c0,c1,p0,p1,p2,p3⟩|exact ⟨far4 HN1.o c0,far4 HN1.o c1,far4 HN2.o p0,far4 HN2.o p1,far4 HN2.o p2,far4 HN2.o p3⟩) (fail)
  all_goals
   go_wp2_with fail
   have hbk:=jx4 (jx4 (jx4 (jx4 HQ.o 0 (.int .i64 (t.kind:Int))) 1 (.string ⟨t.text.toArray⟩)) 2 (.int .i64 (t.n:Int))) 3 (.int .i64 (t.pos:Int))
   have hA3:=(((HA2.o.set (i:=0) (Nat.le_refl _) hbl (.int .i64 (t.kind:Int))).set (i:=1) (Nat.le_refl _) hbl (.string ⟨t.text.toArray⟩)).set (i:=2) (Nat.le_refl _) hbl (.int .i64 (t.n:Int))).set (i:=3) (Nat.le_refl _) hbl (.int .i64 (t.pos:Int))
   have hA4:=hA3.drewN 1
   have hbk4:(((((W2.setCell ⟨W.heap.size,0,none⟩ (.int .i64 (t.kind:Int))).setCell ⟨W.heap.size,1,none⟩ (.string ⟨t.text.toArray⟩)).setCell ⟨W.heap.size,2,none⟩ (.int .i64 (t.n:Int))).setCell ⟨W.heap.size,3,none⟩ (.int .i64 (t.pos:Int))).drewN 1).heap[W.heap.size]?=_:=hbk
   show bodyPost _ _ _ _ _ (((((W2.setCell ⟨W.heap.size,0,none⟩ (.int .i64 (t.kind:Int))).setCell ⟨W.heap.size,1,none⟩ (.string ⟨t.text.toArray⟩)).setCell ⟨W.heap.size,2,none⟩ (.int .i64 (t.n:Int))).setCell ⟨W.heap.size,3,none⟩ (.int .i64 (t.pos:Int))).drewN 1)
   generalize ((((W2.setCell ⟨W.heap.size,0,none⟩ (.int .i64 (t.kind:Int))).setCell ⟨W.heap.size,1,none⟩ (.string ⟨t.text.toArray⟩)).setCell ⟨W.heap.size,2,none⟩ (.int .i64 (t.n:Int))).setCell ⟨W.heap.size,3,none⟩ (.int .i64 (t.pos:Int))).drewN 1=W3 at*
   have k0:W3.cell? ⟨W.heap.size,0,none⟩=some (.int .i64 (t.kind:Int)):=jq0 hbk4 0
   have k1:W3.cell? ⟨W.heap.size,1,none⟩=some (.string ⟨t.text.toArray⟩):=jq0 hbk4 1
   have k2:W3.cell? ⟨W.heap.size,2,none⟩=some (.int .i64 (t.n:Int)):=jq0 hbk4 2
   have k3:W3.cell? ⟨W.heap.size,3,none⟩=some (.int .i64 (t.pos:Int)):=jq0 hbk4 3
   exact bodyPost_ret (v:=tokVal t) (by simp [results,Tryd.results59,go_sem,k0,k1,k2,k3,tokVal]) rfl ⟨rfl,hA4⟩
end Go.Proofs.YtfaflipphkoiiaaDoor.Pr
namespace Go.Proofs.YtfaflipphkoiiaaDoor.Pr
open Go.RowKit Mem
open Lx (Tok)
theorem field_text (a b c d:Value) (w:World):(Instr.field 40 (.agg #[a,b,c,d]) 1).run Tryd.prog w= .ok b w:=by kernel_rfl
theorem field_n (a b c d:Value) (w:World):(Instr.field 40 (.agg #[a,b,c,d]) 2).run Tryd.prog w= .ok c w:=by kernel_rfl
theorem name_any (E:Env) (b:Nat) (s:St) (W:World) (h:PW E b s W):
  Calls Tryd.prog 34 #[.pointer (some ⟨b,0,none⟩)] W fun e w'=>e= .returned (.string ⟨(name s).1.toArray⟩)∧After E b (name s).2 W w':=by
 obtain ⟨t,s1,hts⟩: ∃t s1,take 1 s=(t,s1):=⟨_,_,rfl⟩
 have e:name s=((take 1 s).1.text,(take 1 s).2):=rfl
 rw [e,hts]
 have HT:=hdd hts
 have HP:=hdd h;clear h e hts
 have hft:=field_text
 go_enter Tryd.func34,Tryd.ntmps34
 go_wp2_with fail
 refine (take_any E b s 1 _ HP.o).mono ?_
 rw [HT.o]
 unfold tokVal
 rintro e w1 ⟨rfl,hA⟩
 have HA:=hdd hA;clear hA
 go_wp2_with fail
 go_ret
 exact ⟨rfl,HA.o⟩
theorem number_any (E:Env) (b:Nat) (s:St) (W:World) (h:PW E b s W):
  Calls Tryd.prog 36 #[.pointer (some ⟨b,0,none⟩)] W fun e w'=>e= .returned (.int .i64 ((number s).1:Int))∧After E b (number s).2 W w':=by
 obtain ⟨t,s1,hts⟩: ∃t s1,take 2 s=(t,s1):=⟨_,_,rfl⟩
 have e:number s=((take 2 s).1.n,(take 2 s).2):=rfl
 rw [e,hts]
 have HT:=hdd hts
 have HP:=hdd h;clear h e hts
 have hft:=field_n
 go_enter Tryd.func36,Tryd.ntmps36
 go_wp2_with fail
 refine (take_any E b s 2 _ HP.o).mono ?_
 rw [HT.o]
 unfold tokVal
 rintro e w1 ⟨rfl,hA⟩
 have HA:=hdd hA;clear hA
 go_wp2_with fail
 go_ret
 exact ⟨rfl,HA.o⟩
end Go.Proofs.YtfaflipphkoiiaaDoor.Pr
namespace Go.Proofs.YtfaflipphkoiiaaDoor.Pr
open Go.RowKit Mem
open Lx (Tok)
def sv (x:Bytes):Value:= .string ⟨x.toArray⟩
def nil:Value:= .slice none 0 0
def icells (f:Flat) (sc sd sn si:Value):List Value:=
 [.int .i64 (f.kind:Int),.string ⟨f.name.toArray⟩,.int .i64 (f.pos:Int),.string ⟨f.of_.toArray⟩,.string ⟨f.act.toArray⟩,.int .i64 (f.word:Int),.int .i64 (f.times:Int),
  .int .i64 (f.within.days:Int),.bool f.within.bus,.string ⟨f.within.name.toArray⟩,.int .i64 (f.grace.days:Int),.bool f.grace.bus,.string ⟨f.grace.name.toArray⟩,
  sc,.string ⟨f.by_.toArray⟩,.string ⟨f.til.toArray⟩,.int .i64 (f.num.num:Int),.int .i64 (f.num.den:Int),.string ⟨f.unit.toArray⟩,.string ⟨f.sum.toArray⟩,.bool f.fin,.string ⟨f.give.toArray⟩,.string ⟨f.to_.toArray⟩,
  .bool (f.days.getD 0 false),.bool (f.days.getD 1 false),.bool (f.days.getD 2 false),.bool (f.days.getD 3 false),.bool (f.days.getD 4 false),.bool (f.days.getD 5 false),.bool (f.days.getD 6 false),
  sd,sn,si]
theorem jj6 (f:Flat) (sc sd sn si:Value):(icells f sc sd sn si).length=33:=rfl
theorem jv2 (f:Flat) (sc sd sn si:Value) (h1: ∃A n c,sc= .slice A n c) (h2: ∃A n c,sd= .slice A n c) (h3: ∃A n c,sn= .slice A n c) (h4: ∃A n c,si= .slice A n c):(icells f sc sd sn si).toArray.all (·.oneCell')=true:=by
 obtain ⟨_,_,_,rfl⟩:=h1
 obtain ⟨_,_,_,rfl⟩:=h2
 obtain ⟨_,_,_,rfl⟩:=h3
 obtain ⟨_,_,_,rfl⟩:=h4
 simp [icells,Value.oneCell']
theorem ic1 (f:Flat) (A B C D:Option Addr) (a b c d a2 b2 c2 d2:Nat):(icells f (.slice A a a2) (.slice B b b2) (.slice C c c2) (.slice D d d2)).toArray.all (·.oneCell')=true:=jv2 _ _ _ _ _ ⟨_,_,_,rfl⟩ ⟨_,_,_,rfl⟩ ⟨_,_,_,rfl⟩ ⟨_,_,_,rfl⟩
theorem info_item:(Tryd.prog.info? 57).map (·.size)=some 33:=by kernel_rfl
def IB (q:Nat) (f:Flat) (sc sd sn si:Value) (W:World):Prop:=W.heap[q]?=some (.cells (icells f sc sd sn si).toArray 57 (0,0))
abbrev I0 (W w:World):Prop:=IB W.heap.size flat0 nil nil nil nil w
abbrev I4 (q:Nat) (f:Flat) (w:World):Prop:=IB q f nil nil nil nil w
theorem IB.range {q:Nat} {f:Flat} {sc sd sn si:Value} {W:World} (h:IB q f sc sd sn si W):W.rangeAt q 0 (icells f sc sd sn si):=by
 intro j v hj
 rw [Nat.zero_add,jq0 h]
 simpa using hj
theorem IB.there {q:Nat} {f:Flat} {sc sd sn si:Value} {W:World} (h:IB q f sc sd sn si W):W.there q 0 33:=by
 intro j hj
 rw [Nat.zero_add]
 refine ⟨?_,jq1 h j⟩
 rw [jq0 h]
 have:j<(icells f sc sd sn si).length:=hj
 simp [this]
theorem jx6 (f:Flat) (sc sd sn si:Value):(Tryd.prog.info? 57).map (·.size)=some (icells f sc sd sn si).length:=by rw [jj6];exact info_item
theorem jq6 (f:Flat) (sc sd sn si:Value):(Tryd.prog.info? 57).map (·.size)=some (icells f sc sd sn si).toArray.size:=by rw [List.size_toArray,jj6];exact info_item
theorem IB.there' {q:Nat} {f:Flat} {sc sd sn si:Value} {W:World} (h:IB q f sc sd sn si W) (g:Flat) (a1 a2 a3 a4:Value):W.there q 0 (icells g a1 a2 a3 a4).toArray.size:=by rw [List.size_toArray,jj6];exact h.there
def cval (c:Named):List Value:= [.string ⟨c.name.toArray⟩,.int .i64 (c.is_:Int)]
def dval (c:Civil):List Value:= [.int .i64 (c.y:Int),.int .i64 (c.m:Int),.int .i64 (c.d:Int)]
def FlatOK (base:Nat) (f:Flat) (sc sd sn:Value) (W:World):Prop:=
 W.ownsRow base 59 2 sc f.conds.length (f.conds.flatMap cval)∧W.ownsRow base 24 3 sd f.dates.length (f.dates.flatMap dval)∧W.ownsRow base 9 1 sn f.names.length (f.names.map sv)
theorem FlatOK.nil (base:Nat) (f:Flat) (W:World) (h1:f.conds= []) (h2:f.dates= []) (h3:f.names= []):FlatOK base f nil nil nil W:=by
 unfold FlatOK
 rw [h1,h2,h3]
 exact ⟨World.ownsRow_nil _ _ _ _,World.ownsRow_nil _ _ _ _,World.ownsRow_nil _ _ _ _⟩
theorem expect1 (E:Env) (b:Nat) (s:St) (x:Bytes) (W1:World) (g:Nat) (hg:g=W1.heap.size) (h:PW E b s W1):
  Calls Tryd.prog 33 #[.pointer (some ⟨b,0,none⟩),.slice (some ⟨g,0,none⟩) 1 1] (W1.alloc (.cells #[.string ⟨x.toArray⟩] 9)) fun e w'=>e= .returned (.tuple #[])∧After E b (expect [x] s).2 W1 w':=by
 subst hg
 refine (expect_any E b s [x] W1.heap.size 0 1 _ (h.alloc _) (by simp) h.2.2.1 ?_ (by simp)).mono fun e w' ⟨he,ha⟩=>⟨he,((After.start h).alloc _).trans ha⟩
 intro i hi
 have hi0:i=0:=by simp at hi;omega
 subst hi0
 exact jq0 (kx5 W1 _) 0
theorem Fr.setCells {S:Nat→Prop} {A:World} {q:Nat} (hq:S q∨A.heap.size≤q) (vs:List Value): ∀(o:Nat) (B:World),Fr S A B→Fr S A (B.setCells q o vs):=by
 induction vs with
 |nil=>intro o B h;exact h
 |cons v r ih=>intro o B h;exact ih (o+1) _ (h.setCell (p:=⟨q,o,none⟩) hq v)
theorem After.setCells {E:Env} {b:Nat} {s:St} {W W1:World} (h:After E b s W W1) {q:Nat} (hq:W.heap.size≤q) (hb:b<q) (o:Nat) (vs:List Value):After E b s W (W1.setCells q o vs):=
 ⟨h.1.fr (S:=fun k=>k=q) (Fr.setCells (S:=fun k=>k=q) (.inl rfl) vs o _ (Fr.refl _ _)) (fun k hk e=>by omega),Fr.setCells (.inr hq) vs o _ h.2⟩
theorem jq8 {fn:Func} {r:Nat} {T:TypeId} (hf:fn.results= #[.cell r T]) {tmps:Array Value} {w:World} {a:Addr} {v:Value} (ht:tmps.getD r undef= .pointer (some a)) (hl:(loadVar T a).run Tryd.prog w= .ok v w):(results fn tmps).run Tryd.prog w= .ok v w:=by
 have ht':tmps[r]?.getD undef= .pointer (some a):=by simpa using ht
 unfold results
 rw [hf]
 simp [ht',asAddr,hl]
theorem item_end {E:Env} {b:Nat} {s:St} {W w2:World} {g:Flat} {a1 a2 a3 a4:Value} (HR:IB W.heap.size g a1 a2 a3 a4 w2) (HA:After E b s W w2) (hb:b<W.heap.size) (F:Flat) (sc sd sn si:Value):
  ∃w3,w2.setCells W.heap.size 0 (icells F sc sd sn si).toArray.toList=w3∧After E b s W w3∧(loadVar 57 ⟨W.heap.size,0,none⟩).run Tryd.prog w3= .ok (.agg (icells F sc sd sn si).toArray) w3∧
   (∀base e z v n xs,W.heap.size<base→w2.ownsRow base e z v n xs→w3.ownsRow base e z v n xs):=by
 refine ⟨_,rfl,HA.setCells (Nat.le_refl _) hb _ _,?_,?_⟩
 ·rw [List.toList_toArray]
  exact run_loadVar_mid _ _ _ _ (icells F sc sd sn si) _ (World.rangeAt_setCells_same _ _ _ _ (by rw [jj6];exact HR.there)) Tryd.underlying57 rfl (jx6 _ _ _ _ _)
 ·intro base e z v n xs hl ho
  exact jx5 ho (Fr.setCells (S:=fun k=>k=W.heap.size) (.inl rfl) _ _ _ (Fr.refl _ _)) (fun k hk _ e=>by omega)
theorem wpList_build {ops:Array Oper} {rest:List Oper} {o:Oper} {a:Act} {w:World} {Q:Exit→Act→World→Prop} (hg:o.guard=none) (t:TypeId) (parts:Array (Nat×Operand)) (hop:o.op= .build t parts) (ps:Array (Nat×Value))
  (hp:parts.map (fun (i,x)=>(i,a.eval x))=ps) (v:Value) (hb:(Instr.build t ps).run Tryd.prog w= .ok v w) (h:wpList Tryd.prog ops Q rest (a.put o.dst v) w):wpList Tryd.prog ops Q (o::rest) a w:=by
 refine wpList_plain hg fun K hK=>?_
 unfold Oper.wp
 simp [execOp,hop,hp,hb,Result.andThen]
 exact hK _ _ h
theorem setCells_new {t:TypeId} (cs:List Value): ∀(o:Nat) (W:World) (pre:List Value) (cs0:List Value),pre.length=o→cs0.length=cs.length→(W.alloc (.cells (pre++cs0).toArray t)).setCells W.heap.size o cs=W.alloc (.cells (pre++cs).toArray t):=by
 induction cs with
 |nil=>intro o W pre cs0 hp hl;obtain rfl:cs0= []:=List.eq_nil_of_length_eq_zero hl;rfl
 |cons v r ih=>
  intro o W pre cs0 hp hl
  match cs0,hl with
  |u::us,hl=>
   have e:(pre++u::us).toArray.setIfInBounds o v=((pre++ [v])++us).toArray:=by simp [hp]
   have:=ih (o+1) W (pre++ [v]) us (by simp [hp]) (by simpa using hl)
   rw [World.setCells,World.setCell_alloc_at _ _ _ _ _ rfl,e,this]
   simp
theorem jq4 {ops:Array Oper} {rest:List Oper} {o:Oper} {a:Act} {w0:World} {cs0:Array Value} {Q:Exit→Act→World→Prop} (hg:o.guard=none) (t:TypeId) (x y:Operand) (hop:o.op= .store t x y) (hx:a.eval x= .pointer (some ⟨w0.heap.size,0,none⟩)) (cells:Array Value) (hy:a.eval y= .agg cells)
  (hi:(Tryd.prog.info? t).map (·.size)=some cells.size) (h1:cells.all (·.oneCell')=true) (hs:cs0.size=cells.size) (h:wpList Tryd.prog ops Q rest (a.put o.dst undef) (w0.alloc (.cells cells t))):wpList Tryd.prog ops Q (o::rest) a (w0.alloc (.cells cs0 t)):=by
 have hbk:=kx5 w0 (.cells cs0 t)
 refine wpList_store_mid hg t x y hop w0.heap.size 0 cells hx hy ?_ hi h1 ?_
 ·intro j hj
  rw [Nat.zero_add]
  refine ⟨?_,jq1 hbk j⟩
  rw [jq0 hbk]
  have:j<cs0.size:=by omega
  simp [this]
 ·obtain ⟨l0⟩:=cs0
  obtain ⟨l⟩:=cells
  have e:=setCells_new (t:=t) l 0 w0 [] l0 rfl (by simpa using hs)
  simp only [List.nil_append] at e
  rw [show (⟨l⟩:Array Value).toList=l from rfl,e]
  exact h
theorem jj4 {w:World} {q:Nat} {cs:List Value} {T T':TypeId} {d:TypeDesc} (hu:Tryd.prog.underlying T=some d) (hd:d.isRow=true) (hi:(Tryd.prog.info? T).map (·.size)=some cs.length) (h:w.heap[q]?=some (.cells cs.toArray T' (0,0))):(loadVar T ⟨q,0,none⟩).run Tryd.prog w= .ok (.agg cs.toArray) w:=
 run_loadVar_mid _ _ _ _ cs _ (fun j v hj=>by rw [Nat.zero_add,jq0 h];simpa using hj) hu hd hi
theorem jx2 {w:World} {g:Nat} {o:Obj} (h:w.heap[g]?=some o) (m:Nat):(w.drewN m).heap[g]?=some o:=h
theorem kq6 (w:World) (m:Nat):(w.drewN m).heap.size=w.heap.size:=rfl
theorem kx2 {k:Nat} {s s':St} {t:Tok} (h:opt k s=(some t,s')):isK k s=true∧take k s=(t,s'):=by
 unfold opt at h
 cases hk:isK k s with
 |false=>rw [hk] at h;simp at h
 |true=>
  refine ⟨rfl,?_⟩
  rw [hk] at h
  simp only [if_true] at h
  simp [take,bnd,opt,hk,h,ret]
theorem jj5 {k:Nat} {s s':St} (h:opt k s=(none,s')):isK k s=false∧s'=s:=by
 unfold opt at h
 cases hk:isK k s with
 |false=>rw [hk] at h;simp at h;exact ⟨rfl,h.symm⟩
 |true=>
  obtain ⟨_,t,r,hr,_⟩:=isK_err hk
  rw [hk,hr] at h
  simp at h
theorem name_of_opt {s s':St} {t:Tok} (h:opt 1 s=(some t,s')):name s=(t.text,s'):=by simp [name,bnd,ret,(kx2 h).2]
theorem kx9 {s s':St} {t:Tok} (h:opt 2 s=(some t,s')):number s=(t.n,s'):=by simp [number,bnd,ret,(kx2 h).2]
theorem IB.set_name {q:Nat} {f:Flat} {sc sd sn si:Value} {W:World} (h:IB q f sc sd sn si W) (x:Bytes):IB q {f with name:=x} sc sd sn si (W.setCell ⟨q,1,none⟩ (.string ⟨x.toArray⟩)):=by
 have h2:=(jx4 h 1 (.string ⟨x.toArray⟩))
 exact h2
theorem IB.set_of_ {q:Nat} {f:Flat} {sc sd sn si:Value} {W:World} (h:IB q f sc sd sn si W) (x:Bytes):IB q {f with of_:=x} sc sd sn si (W.setCell ⟨q,3,none⟩ (.string ⟨x.toArray⟩)):=by
 have h2:=(jx4 h 3 (.string ⟨x.toArray⟩))
 exact h2
theorem IB.set_act {q:Nat} {f:Flat} {sc sd sn si:Value} {W:World} (h:IB q f sc sd sn si W) (x:Bytes):IB q {f with act:=x} sc sd sn si (W.setCell ⟨q,4,none⟩ (.string ⟨x.toArray⟩)):=by
 have h2:=(jx4 h 4 (.string ⟨x.toArray⟩))
 exact h2
theorem IB.set_word {q:Nat} {f:Flat} {sc sd sn si:Value} {W:World} (h:IB q f sc sd sn si W) (x:Nat):IB q {f with word:=x} sc sd sn si (W.setCell ⟨q,5,none⟩ (.int .i64 (x:Int))):=by
 have h2:=(jx4 h 5 (.int .i64 (x:Int)))
 exact h2
theorem IB.set_times {q:Nat} {f:Flat} {sc sd sn si:Value} {W:World} (h:IB q f sc sd sn si W) (x:Nat):IB q {f with times:=x} sc sd sn si (W.setCell ⟨q,6,none⟩ (.int .i64 (x:Int))):=by
 have h2:=(jx4 h 6 (.int .i64 (x:Int)))
 exact h2
theorem IB.set_within {q:Nat} {f:Flat} {sc sd sn si:Value} {W:World} (h:IB q f sc sd sn si W) (x:Span):IB q {f with within:=x} sc sd sn si (((W.setCell ⟨q,7,none⟩ (.int .i64 (x.days:Int))).setCell ⟨q,8,none⟩ (.bool x.bus)).setCell ⟨q,9,none⟩ (.string ⟨x.name.toArray⟩)):=by
 have h2:=(jx4 (jx4 (jx4 h 7 (.int .i64 (x.days:Int))) 8 (.bool x.bus)) 9 (.string ⟨x.name.toArray⟩))
 exact h2
theorem IB.set_grace {q:Nat} {f:Flat} {sc sd sn si:Value} {W:World} (h:IB q f sc sd sn si W) (x:Span):IB q {f with grace:=x} sc sd sn si (((W.setCell ⟨q,10,none⟩ (.int .i64 (x.days:Int))).setCell ⟨q,11,none⟩ (.bool x.bus)).setCell ⟨q,12,none⟩ (.string ⟨x.name.toArray⟩)):=by
 have h2:=(jx4 (jx4 (jx4 h 10 (.int .i64 (x.days:Int))) 11 (.bool x.bus)) 12 (.string ⟨x.name.toArray⟩))
 exact h2
theorem IB.set_by_ {q:Nat} {f:Flat} {sc sd sn si:Value} {W:World} (h:IB q f sc sd sn si W) (x:Bytes):IB q {f with by_:=x} sc sd sn si (W.setCell ⟨q,14,none⟩ (.string ⟨x.toArray⟩)):=by
 have h2:=(jx4 h 14 (.string ⟨x.toArray⟩))
 exact h2
theorem IB.set_til {q:Nat} {f:Flat} {sc sd sn si:Value} {W:World} (h:IB q f sc sd sn si W) (x:Bytes):IB q {f with til:=x} sc sd sn si (W.setCell ⟨q,15,none⟩ (.string ⟨x.toArray⟩)):=by
 have h2:=(jx4 h 15 (.string ⟨x.toArray⟩))
 exact h2
theorem IB.set_num {q:Nat} {f:Flat} {sc sd sn si:Value} {W:World} (h:IB q f sc sd sn si W) (x:Ratio):IB q {f with num:=x} sc sd sn si ((W.setCell ⟨q,16,none⟩ (.int .i64 (x.num:Int))).setCell ⟨q,17,none⟩ (.int .i64 (x.den:Int))):=by
 have h2:=(jx4 (jx4 h 16 (.int .i64 (x.num:Int))) 17 (.int .i64 (x.den:Int)))
 exact h2
theorem IB.set_unit {q:Nat} {f:Flat} {sc sd sn si:Value} {W:World} (h:IB q f sc sd sn si W) (x:Bytes):IB q {f with unit:=x} sc sd sn si (W.setCell ⟨q,18,none⟩ (.string ⟨x.toArray⟩)):=by
 have h2:=(jx4 h 18 (.string ⟨x.toArray⟩))
 exact h2
theorem IB.set_sum {q:Nat} {f:Flat} {sc sd sn si:Value} {W:World} (h:IB q f sc sd sn si W) (x:Bytes):IB q {f with sum:=x} sc sd sn si (W.setCell ⟨q,19,none⟩ (.string ⟨x.toArray⟩)):=by
 have h2:=(jx4 h 19 (.string ⟨x.toArray⟩))
 exact h2
theorem IB.set_fin {q:Nat} {f:Flat} {sc sd sn si:Value} {W:World} (h:IB q f sc sd sn si W) (x:Bool):IB q {f with fin:=x} sc sd sn si (W.setCell ⟨q,20,none⟩ (.bool x)):=by
 have h2:=(jx4 h 20 (.bool x))
 exact h2
theorem IB.set_give {q:Nat} {f:Flat} {sc sd sn si:Value} {W:World} (h:IB q f sc sd sn si W) (x:Bytes):IB q {f with give:=x} sc sd sn si (W.setCell ⟨q,21,none⟩ (.string ⟨x.toArray⟩)):=by
 have h2:=(jx4 h 21 (.string ⟨x.toArray⟩))
 exact h2
theorem IB.set_to_ {q:Nat} {f:Flat} {sc sd sn si:Value} {W:World} (h:IB q f sc sd sn si W) (x:Bytes):IB q {f with to_:=x} sc sd sn si (W.setCell ⟨q,22,none⟩ (.string ⟨x.toArray⟩)):=by
 have h2:=(jx4 h 22 (.string ⟨x.toArray⟩))
 exact h2
end Go.Proofs.YtfaflipphkoiiaaDoor.Pr
