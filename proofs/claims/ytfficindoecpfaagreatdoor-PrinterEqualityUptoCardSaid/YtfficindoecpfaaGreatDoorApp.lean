/-
  append of a row that is read, of any length, onto a row that the call owns.
-/
import Derived.Test.YtfficindoecpfaaGreatDoorPkVw
import Derived.Test.YtfficindoecpfaaGreatDoorProg
import Derived.Deep.AppendLies
set_option linter.unusedVariables false
namespace Go.Proofs.YtfficindoecpfaaGreatDoor.Mem
open Go.RowKit Vw
theorem flat_inv {α:Type} (f:α→List Value) (z:Nat) (l:List α) (hz: ∀x∈l,(f x).length=z): ∀(j:Nat) (u:Value),(l.flatMap f)[j]?=some u→ ∃i k y,j=i*z+k∧(l.map f)[i]?=some y∧y[k]?=some u:=by
 induction l with
 |nil=>intro j u h;simp at h
 |cons a l ih=>
  intro j u h
  have ha:=hz a (by simp)
  rw [List.flatMap_cons] at h
  by_cases hj:j<z
  ·rw [List.getElem?_append_left (by omega)] at h
   exact ⟨0,j,f a,by omega,rfl,h⟩
  ·rw [List.getElem?_append_right (by omega),ha] at h
   obtain ⟨i,k,y,e,h1,h2⟩:=ih (fun x hx=>hz x (by simp [hx])) _ u h
   exact ⟨i+1,k,y,by rw [Nat.succ_mul];omega,by simpa using h1,h2⟩
theorem flat_length {α:Type} (f:α→List Value) (z:Nat) (l:List α) (hz: ∀x∈l,(f x).length=z):(l.flatMap f).length=l.length*z:=by
 induction l with
 |nil=>simp
 |cons a l ih=>rw [List.flatMap_cons,List.length_append,hz a (by simp),ih (fun y hy=>hz y (by simp [hy])),List.length_cons,Nat.succ_mul];omega
section
variable {P:Program} {w:World}
theorem run_append_zero (base:Nat) (t ty e:TypeId) (i:TypeInfo) (size:Nat) (ht:P.underlying t=some (.slice e)) (hi:P.info? e=some i)
  (v:Value) (n:Nat) (xs:List Value) (hown:w.ownsRow base e size v n xs) (A:Option Addr) (c:Nat):
  (Builtin.append_ #[t,t] ty #[v,.slice A 0 c]).run P w= .ok v w:=by
 rcases hown.2 with ⟨rfl,rfl⟩|⟨g,cap,cur,rfl,_,_,hnc,_⟩
 ·cases A<;>simp [Builtin.append_,run_underlying ht,sizeOf,typeInfo,hi,Builtin.lenOf,Builtin.firstCells,loadCells,loadCellsFrom]
 ·cases A<;>simp [Builtin.append_,run_underlying ht,sizeOf,typeInfo,hi,Builtin.lenOf,Builtin.firstCells,hnc,storeCells,loadCells,loadCellsFrom]
theorem run_append_row {α:Type} (t ty:TypeId) (base:Nat) (e:TypeId) (i:TypeInfo) (z:Value) (size bytes:Nat) (ht:P.underlying t=some (.slice e)) (hi:P.info? e=some i) (hz:i.zero=some z)
  (hsize:i.size=size) (hby:i.bytes=bytes) (hzs:z.cells.size=size) (hsz:0<size)
  (v:Value) (n:Nat) (xs:List Value) (hown:w.ownsRow base e size v n xs)
  (x:Value) (f:α→List Value) (l:List α) (hx:Row w x size (l.map f)) (hf: ∀y∈l,(f y).length=size) (h1: ∀y∈l,∀u∈f y,u.oneCell'=true)
  (h63:n+l.length≤maxLen) (hbytes:(n+l.length)*bytes≤140737488355328) (hbase:base≤w.heap.size):
  ∃v' w',(Builtin.append_ #[t,t] ty #[v,x]).run P w= .ok v' w'∧w'.ownsRow base e size v' (n+l.length) (xs++l.flatMap f)∧w.grownBy w' v.ownBlock∧(v'.ownBlock=v.ownBlock∨v'.ownBlock=some w.heap.size):=by
 obtain ⟨A,c,rfl,hc,hr⟩:=hx
 rw [List.length_map]
 rcases hr with h0|⟨g,o,rfl,hg,hat⟩
 ·have h0':l= []:=List.map_eq_nil_iff.1 h0
  subst h0'
  refine ⟨v,w,run_append_zero base t ty e i size ht hi v n xs hown A c,by simpa using hown,⟨rfl,rfl,rfl,Nat.le_refl _,fun _ _ _=>rfl⟩,.inl rfl⟩
 ·obtain ⟨v',w',h2,h3,h4,_,h5⟩:=run_append_own_at (P:=P) w base t ty e i z size bytes ht hi hz hsize hby hzs hsz v n xs hown ⟨g,o,none⟩ l.length c (l.flatMap f) (flat_length f size l hf)
   (fun j u hj=>by
    obtain ⟨i,k,y,e,k1,k2⟩:=flat_inv f size l hf j u hj
    have hadd:(⟨g,o,none⟩:Addr).add j=⟨g,o+i*size+k,none⟩:=by unfold Addr.add;subst e;simp [Nat.add_assoc]
    rw [hadd]
    exact hat i y k1 k u k2)
   (fun u hu=>by
    obtain ⟨y,hy,hu⟩:=List.mem_flatMap.1 hu
    exact h1 y hy u hu) h63 hbytes hbase
  exact ⟨v',w',h2,h3,h4,h5⟩
theorem wp_append_row {α:Type} {o:Oper} {a:Act} {K:Act→World→Prop} {Q:Exit→Act→World→Prop} (s x:Operand) (t:TypeId)
  (ho:o.op= .call {callee:= .builtin .append,args:= #[s,x],argTypes:= #[t,t]})
  (base:Nat) (e:TypeId) (i:TypeInfo) (z:Value) (size bytes:Nat) (ht:P.underlying t=some (.slice e)) (hi:P.info? e=some i) (hz:i.zero=some z)
  (hsize:i.size=size) (hby:i.bytes=bytes) (hzs:z.cells.size=size) (hsz:0<size)
  (v:Value) (n:Nat) (xs:List Value) (hs:a.eval s=v) (hown:w.ownsRow base e size v n xs)
  (xv:Value) (hxv:a.eval x=xv) (f:α→List Value) (l:List α) (hx:Row w xv size (l.map f)) (hf: ∀y∈l,(f y).length=size) (h1: ∀y∈l,∀u∈f y,u.oneCell'=true)
  (h63:n+l.length≤maxLen) (hbytes:(n+l.length)*bytes≤140737488355328) (hbase:base≤w.heap.size)
  (h: ∀v' w',w'.ownsRow base e size v' (n+l.length) (xs++l.flatMap f)→w.grownBy w' v.ownBlock→(v'.ownBlock=v.ownBlock∨v'.ownBlock=some w.heap.size)→K (a.put o.dst v') w'):o.wp P a w K Q:=by
 obtain ⟨v',w',hr,h2,h3,h4⟩:=run_append_row (P:=P) (w:=w) t o.type base e i z size bytes ht hi hz hsize hby hzs hsz v n xs hown xv f l hx hf h1 h63 hbytes hbase
 unfold Oper.wp execOp
 simp only [ho,resolve,invoke,builtin,Sem.run_bind,Sem.run_pure,Result.andThen_ok,List.map_toArray,List.map_cons,List.map_nil,hs,hxv,hr]
 exact h v' w' h2 h3 h4
theorem wpList_append_row {α:Type} {ops:Array Oper} {rest:List Oper} {o:Oper} {a:Act} {Q:Exit→Act→World→Prop} (hgd:o.guard=none) (s x:Operand) (t:TypeId)
  (ho:o.op= .call {callee:= .builtin .append,args:= #[s,x],argTypes:= #[t,t]})
  (base:Nat) (e:TypeId) (i:TypeInfo) (z:Value) (size bytes:Nat) (ht:P.underlying t=some (.slice e)) (hi:P.info? e=some i) (hz:i.zero=some z)
  (hsize:i.size=size) (hby:i.bytes=bytes) (hzs:z.cells.size=size) (hsz:0<size)
  (v:Value) (n:Nat) (xs:List Value) (hs:a.eval s=v) (hown:w.ownsRow base e size v n xs)
  (xv:Value) (hxv:a.eval x=xv) (f:α→List Value) (l:List α) (hx:Row w xv size (l.map f)) (hf: ∀y∈l,(f y).length=size) (h1: ∀y∈l,∀u∈f y,u.oneCell'=true)
  (h63:n+l.length≤maxLen) (hbytes:(n+l.length)*bytes≤140737488355328) (hbase:base≤w.heap.size)
  (h: ∀v' w',w'.ownsRow base e size v' (n+l.length) (xs++l.flatMap f)→w.grownBy w' v.ownBlock→(v'.ownBlock=v.ownBlock∨v'.ownBlock=some w.heap.size)→wpList P ops Q rest (a.put o.dst v') w'):wpList P ops Q (o::rest) a w:=
 wpList_plain hgd fun _ hK=>wp_append_row s x t ho base e i z size bytes ht hi hz hsize hby hzs hsz v n xs hs hown xv hxv f l hx hf h1 h63 hbytes hbase fun v' w' h2 h3 h4=>hK _ _ (h v' w' h2 h3 h4)
end
end Go.Proofs.YtfficindoecpfaaGreatDoor.Mem
