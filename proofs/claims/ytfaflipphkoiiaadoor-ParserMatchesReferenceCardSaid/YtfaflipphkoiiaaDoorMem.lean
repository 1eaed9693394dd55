/-
  Blocks of memory: what a block holds, which blocks a call may write, rows that a call owns. Small lemmas.
-/
import Derived.Below
import Derived.WalkKit
import Derived.Handy
import Derived.Lib.Hide
import Derived.Maps.AppendAt
import Derived.Deep.QuietTactic
import Derived.BigQuiet
set_option linter.unusedVariables false
theorem Go.RowKit.Hid.o {p:Prop} (h:Go.RowKit.Hid p):p:=h.out
namespace Go.Proofs.YtfaflipphkoiiaaDoor
theorem hdd {p:Prop} (h:p):RowKit.Hid p:=Lib.hid h
end Go.Proofs.YtfaflipphkoiiaaDoor
namespace Go.Proofs.YtfaflipphkoiiaaDoor.Mem
open Go.RowKit
theorem jq0 {w:World} {g:Nat} {cs:Array Value} {t:TypeId} (h:w.heap[g]?=some (.cells cs t (0,0))) (i:Nat):w.cell? ⟨g,i,none⟩=cs[i]?:=by
 unfold World.cell?;simp [h]
theorem jq1 {w:World} {g:Nat} {cs:Array Value} {t:TypeId} (h:w.heap[g]?=some (.cells cs t (0,0))) (i:Nat):w.frozen? ⟨g,i,none⟩=false:=by
 simp [World.frozen?,h]
theorem jq7 {w:World} {g:Nat} {o:Obj} (h:w.heap[g]?=some o):g<w.heap.size:=(Array.getElem?_eq_some_iff.1 h).1
theorem jq9 {w:World} {g:Nat} {o:Obj} (h:w.heap[g]?=some o) (o':Obj):(w.alloc o').heap[g]?=some o:=(Below.heap_alloc w o' g (jq7 h)).trans h
theorem jx4 {w:World} {g:Nat} {cs:Array Value} {t:TypeId} (h:w.heap[g]?=some (.cells cs t (0,0))) (i:Nat) (u:Value):(w.setCell ⟨g,i,none⟩ u).heap[g]?=some (.cells (cs.setIfInBounds i u) t (0,0)):=by
 simp [World.setCell,Array.getElem?_modify,h]
theorem blk_far {w:World} {g:Nat} {o:Obj} (h:w.heap[g]?=some o) {a:Addr} (ha:g≠a.block) (u:Value):(w.setCell a u).heap[g]?=some o:=(Below.heap_setCell w a u g ha).trans h
theorem kx5 (w:World) (o:Obj):(w.alloc o).heap[w.heap.size]?=some o:=heap_alloc_new w o
theorem jq2 {w:World} {g q i:Nat} {o:Obj} (h:w.heap[g]?=some o) (ha:g≠q) (u:Value):(w.setCell ⟨q,i,none⟩ u).heap[g]?=some o:=blk_far h ha u
theorem jq5 {w:World} {o:Obj} {n:Nat} (h:n=w.heap.size):(w.alloc o).heap[n]?=some o:=by subst h;exact kx5 w o
theorem below_drewN {B:Nat} {a w:World} (h:Below B a w) (n:Nat):Below B a (w.drewN n):=⟨h.os,h.tape,h.output,h.size,h.block⟩
structure Fr (S:Nat→Prop) (W W':World):Prop where
 os:W'.os=W.os
 tape:W'.tape=W.tape
 output:W'.output=W.output
 size:W.heap.size≤W'.heap.size
 block: ∀k,k<W.heap.size→ ¬S k→W'.heap[k]?=W.heap[k]?
theorem Fr.refl (S:Nat→Prop) (W:World):Fr S W W:=⟨rfl,rfl,rfl,Nat.le_refl _,fun _ _ _=>rfl⟩
theorem Fr.trans {S:Nat→Prop} {A B C:World} (h:Fr S A B) (k:Fr S B C):Fr S A C:=
 ⟨k.os.trans h.os,k.tape.trans h.tape,k.output.trans h.output,Nat.le_trans h.size k.size,fun i hi hs=>(k.block i (Nat.lt_of_lt_of_le hi h.size) hs).trans (h.block i hi hs)⟩
theorem Fr.trans' {S T:Nat→Prop} {A B C:World} (h:Fr S A B) (k:Fr T B C) (hT: ∀i,i<A.heap.size→T i→S i):Fr S A C:=
 ⟨k.os.trans h.os,k.tape.trans h.tape,k.output.trans h.output,Nat.le_trans h.size k.size,fun i hi hs=>(k.block i (Nat.lt_of_lt_of_le hi h.size) (fun ht=>hs (hT i hi ht))).trans (h.block i hi hs)⟩
theorem Fr.mono {S T:Nat→Prop} {A B:World} (h:Fr S A B) (hT: ∀i,i<A.heap.size→S i→T i):Fr T A B:=
 ⟨h.os,h.tape,h.output,h.size,fun k hk hs=>h.block k hk (fun hh=>hs (hT k hk hh))⟩
theorem Fr.below {S:Nat→Prop} {A B:World} (h:Fr S A B) {n:Nat} (hn:n≤A.heap.size) (hS: ∀k,S k→n≤k):Below n A B:=
 ⟨h.os,h.tape,h.output,h.size,fun k hk=>h.block k (by omega) (fun hs=>by have:=hS k hs;omega)⟩
theorem Fr.drew {S:Nat→Prop} {A B:World} (h:Fr S A B):Fr S A B.drew:=⟨h.os,h.tape,h.output,h.size,h.block⟩
theorem Fr.drewN {S:Nat→Prop} {A B:World} (h:Fr S A B) (n:Nat):Fr S A (B.drewN n):=⟨h.os,h.tape,h.output,h.size,h.block⟩
theorem Fr.alloc {S:Nat→Prop} {A B:World} (h:Fr S A B) (o:Obj):Fr S A (B.alloc o):=
 h.trans ⟨rfl,rfl,rfl,by simp,fun k hk _=>Below.heap_alloc _ _ _ hk⟩
theorem Fr.setCell {S:Nat→Prop} {A B:World} (h:Fr S A B) {p:Addr} (hp:S p.block∨A.heap.size≤p.block) (u:Value):Fr S A (B.setCell p u):=by
 refine h.trans' (T:=fun k=>k=p.block) ⟨rfl,rfl,rfl,by simp [World.setCell],fun k hk hs=>Below.heap_setCell _ _ _ _ hs⟩ ?_
 rintro i hi rfl
 rcases hp with hp|hp
 ·exact hp
 ·omega
theorem Fr.setb {b:Nat} {A B:World} (h:Fr (fun k=>k=b) A B) (i:Nat) (u:Value):Fr (fun k=>k=b) A (B.setCell ⟨b,i,none⟩ u):=h.setCell (p:=⟨b,i,none⟩) (.inl rfl) u
theorem Fr.grown {S:Nat→Prop} {A B C:World} {row:Option Nat} (h:Fr S A B) (hg:B.grownBy C row) (hr: ∀k,row=some k→S k∨A.heap.size≤k):Fr S A C:=by
 refine h.trans' (T:=fun k=>row=some k) ⟨hg.os,hg.tape,hg.output,hg.size,fun k hk hs=>hg.block k hk (fun e=>hs e.symm)⟩ ?_
 intro i hi hT
 rcases hr i hT with h|h
 ·exact h
 ·omega
theorem Fr.blk {S:Nat→Prop} {A B:World} (h:Fr S A B) {g:Nat} {o:Obj} (hg:A.heap[g]?=some o) (hs: ¬S g):B.heap[g]?=some o:=(h.block g (jq7 hg) hs).trans hg
theorem own_base {w:World} {base base':Nat} {e:TypeId} {size:Nat} {v:Value} {n:Nat} {xs:List Value} (h:w.ownsRow base e size v n xs) (hb:base'≤base):w.ownsRow base' e size v n xs:=by
 refine ⟨h.1,?_⟩
 rcases h.2 with h2|⟨g,cap,cur,hv,hg,r⟩
 ·exact .inl h2
 ·exact .inr ⟨g,cap,cur,hv,by omega,r⟩
theorem own_form {w:World} {base:Nat} {e:TypeId} {size:Nat} {v:Value} {n:Nat} {xs:List Value} (h:w.ownsRow base e size v n xs): ∃A cap,v= .slice A n cap:=by
 rcases h.2 with ⟨rfl,rfl⟩|⟨g,cap,cur,rfl,_⟩
 ·exact ⟨_,_,rfl⟩
 ·exact ⟨_,_,rfl⟩
theorem own_lt {w:World} {base:Nat} {e:TypeId} {size:Nat} {v:Value} {n:Nat} {xs:List Value} (h:w.ownsRow base e size v n xs): ∀g,v.ownBlock=some g→base≤g∧g<w.heap.size:=by
 intro g hg
 rcases h.2 with ⟨rfl,_⟩|⟨g',cap,cur,rfl,hb,hh,_⟩
 ·cases hg
 ·simp only [Value.ownBlock] at hg
  injection hg with hg
  subst hg
  exact ⟨hb,jq7 hh⟩
theorem jx5 {S:Nat→Prop} {w w1:World} {base:Nat} {e:TypeId} {size:Nat} {v:Value} {n:Nat} {xs:List Value} (h:w.ownsRow base e size v n xs) (hf:Fr S w w1) (hs: ∀k,base≤k→k<w.heap.size→ ¬S k):w1.ownsRow base e size v n xs:=by
 refine ⟨h.1,?_⟩
 rcases h.2 with h2|⟨g,cap,cur,hv,hg,hh,r⟩
 ·exact .inl h2
 ·exact .inr ⟨g,cap,cur,hv,hg,hf.blk hh (hs g hg (jq7 hh)),r⟩
theorem cells_new (W:World) (l:List Value) (T:TypeId) (g:Nat) (hg:g=W.heap.size): ∀j u,l[j]?=some u→(W.alloc (.cells l.toArray T)).cell? ((⟨g,0,none⟩:Addr).add j)=some u:=by
 subst hg
 intro j u hu
 have e:(⟨W.heap.size,0,none⟩:Addr).add j=⟨W.heap.size,j,none⟩:=by unfold Addr.add;split<;>simp_all
 rw [e,jq0 (heap_alloc_new W _)]
 simpa using hu
theorem ret_bool {a b:Bool} (h:a=b):Ending.returned (.bool a)= .returned (.bool b):=by rw [h]
theorem ret_int {k:IntKind} {a b:Int} (h:a=b):Ending.returned (.int k a)= .returned (.int k b):=by rw [h]
theorem far_off {W:World} {b i j:Nat} {v:Value} (h:i≠j):(W.setCell ⟨b,i,none⟩ v).cell? ⟨b,j,none⟩=W.cell? ⟨b,j,none⟩:=
 World.cell?_setCell_other _ _ _ _ (by intro e;injection e;omega)
theorem jz0 {W:World} {b g i j:Nat} {v:Value} (h:g≠b):(W.setCell ⟨b,i,none⟩ v).cell? ⟨g,j,none⟩=W.cell? ⟨g,j,none⟩:=
 World.cell?_setCell_other _ _ _ _ (by intro e;injection e;omega)
end Go.Proofs.YtfaflipphkoiiaaDoor.Mem
