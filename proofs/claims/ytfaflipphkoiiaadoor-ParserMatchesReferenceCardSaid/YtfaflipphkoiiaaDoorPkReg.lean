/-
  A region of a function's code, taken out by its number: so that its walk is a theorem of its own. A region that draws its order, walked in one order: loads are taken first, and what they read need be shown anew only behind operations that do not wait for them. Two operations of a region may come up: both are walked.
-/
import Derived.WalkKit
import Derived.Deep.RegionHeld
set_option linter.unusedVariables false
namespace Go.Proofs.YtfaflipphkoiiaaDoor.Cut
def find (n:Nat):Code→Option Code
 | .region k ops d=>bif Nat.beq k n then some (.region k ops d) else none
 | .seq a b=>match find n a with
  |some c=>some c
  |none=>find n b
 | .cond _ a b=>match find n a with
  |some c=>some c
  |none=>find n b
 | .block _ c=>find n c
 | .loop c=>find n c
 | .rangeFunc _ _ _ c=>find n c
 | .scope c=>find n c
 |_=>none
noncomputable def region (f:Func) (n:Nat):Code:=(f.body.bind (find n)).getD .skip
def Blind (Q:Exit→Act→World→Prop):Prop:= ∀c a d v w,Q (.panic c) (Act.put a (some d) v) w→Q (.panic c) a w
end Go.Proofs.YtfaflipphkoiiaaDoor.Cut
namespace Go.Proofs.YtfaflipphkoiiaaDoor.Reg
section
variable {P:Program} {md:Region.Mode} {ops:Array Oper} {Q:Exit→Act→World→Prop}
inductive Waits (md:Region.Mode) (ops:Array Oper):Nat→Nat→Prop
 |here {j:Nat} {o:Oper} {e:Edge}:ops[j]?=some o→e∈o.after→Region.binds md e=true→Waits md ops j e.on
 |far {j i:Nat} {o:Oper} {e:Edge}:ops[j]?=some o→e∈o.after→Region.binds md e=true→Waits md ops e.on i→Waits md ops j i
def Closed (md:Region.Mode) (ops:Array Oper) (listed:Array Bool):Prop:=
 ∀k o,ops[k]?=some o→listed.getD k false=true→ ∀e∈o.after,Region.binds md e=true→listed.getD e.on false=true
theorem Closed.waits {listed:Array Bool} (hc:Closed md ops listed) {k i:Nat} (h:Waits md ops k i):listed.getD k false=true→listed.getD i false=true:=by
 induction h with
 |here ho he hb=>exact fun hk=>hc _ _ ho hk _ he hb
 |far ho he hb _ ih=>exact fun hk=>ih (hc _ _ ho hk _ he hb)
theorem Closed.ready {listed:Array Bool} (hc:Closed md ops listed) {j i:Nat} (hj:j∈Region.ready md ops listed) (h:Waits md ops j i):listed.getD i false=true:=by
 obtain ⟨h0,o,ho,hall⟩:=mem_ready.1 hj
 cases h with
 |here ho' he hb=>
  rw [ho] at ho';injection ho' with ho';subst ho'
  exact hall _ he hb
 |far ho' he hb hw=>
  rw [ho] at ho';injection ho' with ho';subst ho'
  exact hc.waits hw (hall _ he hb)
theorem not_both {listed:Array Bool} {i:Nat} (h0:listed.getD i true=false) (h1:listed.getD i false=true):False:=by
 rcases Nat.lt_or_ge i listed.size with h'|h'
 ·simp [h'] at h0 h1;rw [h0] at h1;cases h1
 ·simp [Array.getElem?_eq_none h'] at h1
theorem Closed.set {listed:Array Bool} (hc:Closed md ops listed) {j:Nat} (hj:j∈Region.ready md ops listed):Closed md ops (listed.setIfInBounds j true):=by
 intro k o ho hk e he hb
 obtain ⟨h0,oj,hoj,hall⟩:=mem_ready.1 hj
 by_cases hkj:k=j
 ·subst hkj
  rw [hoj] at ho;injection ho with ho;subst ho
  exact getD_set_true (hall e he hb)
 ·rw [getD_set_ne false (Ne.symm hkj)] at hk
  exact getD_set_true (hc k o ho hk e he hb)
def AnyG (P:Program) (md:Region.Mode) (ops:Array Oper) (Q:Exit→Act→World→Prop):Nat→(Nat×(World→Prop)→Prop)→Array Bool→Act→World→Prop
 |0,_,listed,a,w=>Region.ready md ops listed= []∧Q .normal a w
 |fuel+1,H,listed,a,w=>
  (Region.ready md ops listed= []→Q .normal a w)∧
  ∀j∈Region.ready md ops listed,wpOp P ops Q j (fun a' w'=>(∀h,H h→ ¬Waits md ops j h.1→h.2 w')∧
   AnyG P md ops Q fuel (fun h=>H h∧ ¬Waits md ops j h.1) (listed.setIfInBounds j true) a' w') a w
theorem any_of_G: ∀(fuel:Nat) (H:Nat×(World→Prop)→Prop) (listed:Array Bool) (a:Act) (w:World),AnyG P md ops Q fuel H listed a w→wpAny P md ops Q fuel listed a w
 |0,_,_,_,_,h=>h
 |fuel+1,_,_,_,_,h=>⟨h.1,fun j hj=>wpOp_mono (fun a' w' h'=>any_of_G fuel _ _ a' w' h'.2) (h.2 j hj)⟩
theorem AnyG.anti: ∀(fuel:Nat) (H H':Nat×(World→Prop)→Prop) (listed:Array Bool) (a:Act) (w:World),(∀h,H' h→H h∨ ∀w,h.2 w)→AnyG P md ops Q fuel H listed a w→AnyG P md ops Q fuel H' listed a w
 |0,_,_,_,_,_,_,h=>h
 |fuel+1,H,H',listed,a,w,hs,h=>by
  refine ⟨h.1,fun j hj=>wpOp_mono (fun a' w' h'=>⟨fun x hx hn=>?_,AnyG.anti fuel _ _ _ a' w' (fun x hx=>?_) h'.2⟩) (h.2 j hj)⟩
  ·rcases hs x hx with h1|h1
   ·exact h'.1 x h1 hn
   ·exact h1 w'
  ·rcases hs x hx.1 with h1|h1
   ·exact .inl ⟨h1,hx.2⟩
   ·exact .inr h1
def Gives (P:Program) (ops:Array Oper) (o:Oper) (v:Value) (F:World→Prop) (a:Act):Prop:=
 (Region.wanted o (yielded ops a.tmps)=true∧ ∀w,F w→(execOp a.eval o).run P w= .ok (.value v) w)∨(Region.wanted o (yielded ops a.tmps)=false∧v=undef)
theorem op_gives {i:Nat} {o:Oper} {v:Value} {a:Act} {F:World→Prop} (hi:ops[i]?=some o) (hy:Gives P ops o v F a) {K:Act→World→Prop} {w:World} (hF:F w) (h:K (a.put o.dst v) w):wpOp P ops Q i K a w:=by
 unfold Go.wpOp
 simp only [hi]
 rcases hy with ⟨hw,hv⟩|⟨hw,rfl⟩
 ·simp only [hw,if_true,Oper.wp,hv w hF,Oper.upon];exact .inl h
 ·simp only [hw,Bool.false_eq_true,if_false];exact h
theorem Gives.same {o:Oper} {v:Value} {a a':Act} {F:World→Prop} (hy:Gives P ops o v F a) (he:execOp a'.eval o=execOp a.eval o) (hw:Region.wanted o (yielded ops a'.tmps)=Region.wanted o (yielded ops a.tmps)):Gives P ops o v F a':=by
 unfold Gives at*
 rw [he,hw]
 exact hy
theorem op_put {j:Nat} {oi oj:Oper} {v:Value} {F:World→Prop} (hj:ops[j]?=some oj) (hap:oi.apart ops oj=true)
  (hsi: ∀cs b,oi.op≠ .select cs b) (hsj: ∀cs b,oj.op≠ .select cs b)
  (hQ: ∀c a w,Q (.panic c) (a.put oi.dst v) w→Q (.panic c) a w) {K:Act→World→Prop} {a:Act} {w:World}
  (hy:Gives P ops oi v F a) (h:wpOp P ops Q j K (a.put oi.dst v) w):
  wpOp P ops Q j (fun a' w'=>Gives P ops oi v F a'∧K (a'.put oi.dst v) w') a w:=by
 obtain ⟨h1,h2,h3⟩:=Oper.apart_spec hap
 have keep: ∀(a:Act),Gives P ops oi v F a→ ∀u,Gives P ops oi v F (a.put oj.dst u):=fun a hy u=>hy.same (execOp_put oi hsi a oj.dst u h3) (wanted_put oi a oj.dst u h3)
 have keepD: ∀d,Gives P ops oi v F {a with defers:=d::a.defers}:=fun d=>hy.same rfl rfl
 unfold wpOp at*
 simp only [hj] at*
 rw [wanted_put oj a oi.dst v h1] at h
 split
 ·rename_i hw
  simp only [hw,if_true] at h
  rcases h with h|⟨hasks,hlets⟩
  case inr=>exact .inr ⟨by unfold Oper.asks at*;rw [execOp_put oj hsj a oi.dst v h1] at hasks;exact hasks,hlets⟩
  refine .inl ?_
  unfold Oper.wp at*
  rw [execOp_put oj hsj a oi.dst v h1] at h
  generalize (execOp a.eval oj).run P w=r at*
  cases r with
  |ok n w'=>
   cases n<;>simp only [Oper.upon] at h ⊢
   case value u=>exact ⟨keep a hy u,by rw [←Act.put_comm a v u h2];exact h⟩
   case skip=>exact ⟨keep a hy _,by rw [←Act.put_comm a v undef h2];exact h⟩
   case defer d=>
    refine ⟨keep _ (keepD d) _,?_⟩
    rw [←Act.put_comm _ v undef h2,←Act.put_defers]
    exact h
   case enter f args=>
    refine Calls.mono h fun e w'' he=>?_
    cases e with
    |returned u=>exact ⟨keep a hy u,by rw [←Act.put_comm a v u h2];exact he⟩
    |panicked c=>exact hQ _ _ _ he
    |outgrown=>exact he
   case row row args=>exact Rows.mono h fun u w'' he=>⟨keep a hy u,by rw [←Act.put_comm a v u h2];exact he⟩
  |halt x w'=>
   cases x<;>simp only [Oper.upon] at h ⊢
   case panic u=>exact hQ _ _ _ h
 ·rename_i hw
  simp only [hw] at h
  exact ⟨keep a hy _,by rw [←Act.put_comm a v undef h2];exact h⟩
theorem AnyG.first {i:Nat} {oi:Oper} {v:Value} {F:World→Prop} (hi:ops[i]?=some oi) (hsel: ∀(j:Nat) (o:Oper) cs b,ops[j]?=some o→o.op≠ .select cs b)
  (hQ: ∀c a w,Q (.panic c) (a.put oi.dst v) w→Q (.panic c) a w):
  ∀(fuel:Nat) (H:Nat×(World→Prop)→Prop) (listed:Array Bool) (a:Act) (w:World),Closed md ops listed→
   (∀j oj,ops[j]?=some oj→j≠i→listed.getD j true=false→(∀e∈oj.after,Region.binds md e=true→e.on≠i)→oi.apart ops oj=true)→
   i∈Region.ready md ops listed→Gives P ops oi v F a→F w→(∀h,H h→h.2 w)→
   AnyG P md ops Q fuel (fun h=>h=(i,F)∨H h) (listed.setIfInBounds i true) (a.put oi.dst v) w→AnyG P md ops Q (fuel+1) H listed a w:=by
 intro fuel
 induction fuel with
 |zero=>
  intro H listed a w hcl _ hr hy hF hH G
  refine ⟨fun h=>(by rw [h] at hr;cases hr),fun j hj=>?_⟩
  by_cases hji:j=i
  ·subst hji;exact op_gives hi hy hF ⟨fun h hh _=>hH h hh,G⟩
  ·have:=ready_mono hj hji
   rw [G.1] at this
   cases this
 |succ fuel ih=>
  intro H listed a w hcl hfree hr hy hF hH G
  refine ⟨fun h=>(by rw [h] at hr;cases hr),fun j hj=>?_⟩
  by_cases hji:j=i
  ·subst hji
   exact op_gives hi hy hF ⟨fun h hh _=>hH h hh,AnyG.anti _ _ _ _ _ _ (fun h hh=> .inl (.inr hh.1)) G⟩
  ·have h1:=G.2 j (ready_mono hj hji)
   obtain ⟨hjun,oj,hoj,hall⟩:=mem_ready.1 hj
   have hnw: ¬Waits md ops j i:=fun hw=>not_both (mem_ready.1 hr).1 (hcl.ready hj hw)
   have hnot: ∀e∈oj.after,Region.binds md e=true→e.on≠i:=fun e he hb heq=>hnw (heq▸Waits.here hoj he hb)
   have h2:=op_put hoj (hfree j oj hoj hji hjun hnot) (fun cs b=>hsel i oi cs b hi) (fun cs b=>hsel j oj cs b hoj) hQ hy h1
   have hfree': ∀k ok,ops[k]?=some ok→k≠i→(listed.setIfInBounds j true).getD k true=false→
     (∀e∈ok.after,Region.binds md e=true→e.on≠i)→oi.apart ops ok=true:=fun k ok hk hki hun hno=>by
    refine hfree k ok hk hki ?_ hno
    by_cases hjk:j=k
    ·subst hjk;exact hjun
    ·rw [getD_set_ne true hjk] at hun;exact hun
   refine wpOp_mono (fun a' w' h3=>⟨fun h hh hn=>h3.2.1 h (.inr hh) hn,ih (fun h=>H h∧ ¬Waits md ops j h.1) (listed.setIfInBounds j true) a' w' (hcl.set hj) hfree' (ready_mono hr (Ne.symm hji)) h3.1 (h3.2.1 (i,F) (.inl rfl) hnw) (fun h hh=>h3.2.1 h (.inr hh.1) hh.2) ?_⟩) h2
   rw [Array.setIfInBounds_comm _ _ hji]
   exact AnyG.anti _ _ _ _ _ _ (fun h hh=> .inl (by
    rcases hh with hh|hh
    ·exact ⟨.inl hh,by rw [hh];exact hnw⟩
    ·exact ⟨.inr hh.1,hh.2⟩)) h3.2.2
abbrev Fact:=Nat×(World→Prop)
def All:List Fact→World→Prop
 | [],_=>True
 |h::l,w=>h.2 w∧All l w
theorem All.mem {w:World}: ∀ {l:List Fact},All l w→ ∀h∈l,h.2 w
 | [],_,h,hh=>by cases hh
 |x::l,ha,h,hh=>by
  rcases List.mem_cons.1 hh with rfl|hh
  ·exact ha.1
  ·exact All.mem ha.2 h hh
def Kept:List Bool→List Fact→List Fact
 |true::m,h::l=>h::Kept m l
 |false::m,_::l=>Kept m l
 |_,_=> []
theorem Kept.mem: ∀ {m:List Bool} {l:List Fact},∀h∈Kept m l,h∈l
 | [],l,h,hh=>by cases l<;>simp [Kept] at hh
 |true::m,[],h,hh=>by simp [Kept] at hh
 |false::m,[],h,hh=>by simp [Kept] at hh
 |true::m,x::l,h,hh=>by
  simp only [Kept,List.mem_cons] at hh
  rcases hh with rfl|hh
  ·simp
  ·exact List.mem_cons_of_mem _ (Kept.mem h hh)
 |false::m,x::l,h,hh=>List.mem_cons_of_mem _ (Kept.mem (m:=m) h hh)
def masks (md:Region.Mode) (ops:List Oper):List Nat:=
 ops.foldl (fun acc o=>acc++ [o.after.toList.foldl (fun s e=>if Region.binds md e then s|||(1 <<< e.on)|||acc.getD e.on 0 else s) 0]) []
def GoodMasks (md:Region.Mode) (ops:Array Oper) (acc:List Nat):Prop:= ∀k m,acc[k]?=some m→ ∀i,m.testBit i=true→Waits md ops k i
theorem mask_one {acc:List Nat} {k:Nat} {o:Oper} (ho:ops[k]?=some o) (hacc:GoodMasks md ops acc): ∀(es:List Edge) (s:Nat),(∀e∈es,e∈o.after)→(∀i,s.testBit i=true→Waits md ops k i)→
  ∀i,(es.foldl (fun s e=>if Region.binds md e then s|||(1 <<< e.on)|||acc.getD e.on 0 else s) s).testBit i=true→Waits md ops k i
 | [],s,_,hs,i,h=>hs i h
 |e::es,s,hm,hs,i,h=>by
  refine mask_one ho hacc es _ (fun e' he'=>hm e' (List.mem_cons_of_mem _ he')) (fun i hi=>?_) i h
  dsimp only at hi
  split at hi
  ·rename_i hb
   rw [Nat.testBit_or,Nat.testBit_or,Bool.or_eq_true,Bool.or_eq_true] at hi
   have he:=hm e (by simp)
   rcases hi with (hi|hi)|hi
   ·exact hs i hi
   ·rw [Nat.shiftLeft_eq,Nat.one_mul,Nat.testBit_two_pow] at hi
    have:e.on=i:=by simpa using hi
    exact this▸Waits.here ho he hb
   ·cases hq:acc[e.on]? with
    |none=>simp [List.getD,hq] at hi
    |some m=>
     simp [List.getD,hq] at hi
     exact Waits.far ho he hb (hacc _ _ hq i hi)
  ·exact hs i hi
theorem masks_good:GoodMasks md ops (masks md ops.toList):=by
 have key: ∀(l:List Oper) (acc:List Nat),(∀j,l[j]?=ops[acc.length+j]?)→GoodMasks md ops acc→
   GoodMasks md ops (l.foldl (fun acc o=>acc++ [o.after.toList.foldl (fun s e=>if Region.binds md e then s|||(1 <<< e.on)|||acc.getD e.on 0 else s) 0]) acc):=by
  intro l
  induction l with
  |nil=>intro acc _ h;exact h
  |cons o l ih=>
   intro acc hl h
   refine ih _ (fun j=>?_) ?_
   ·have:=hl (j+1)
    rw [List.length_append,List.length_singleton,show acc.length+1+j=acc.length+(j+1) by omega]
    simpa using this
   ·intro k m hk i hi
    by_cases hlt:k<acc.length
    ·rw [List.getElem?_append_left hlt] at hk
     exact h k m hk i hi
    ·rw [List.getElem?_append_right (by omega)] at hk
     have hk0:k-acc.length=0:=by
      have:=(List.getElem?_eq_some_iff.1 hk).1
      simp at this;omega
     rw [hk0] at hk
     simp only [List.getElem?_cons_zero,Option.some.injEq] at hk
     subst hk
     obtain rfl:k=acc.length:=by omega
     have ho:ops[acc.length]?=some o:=by have:=hl 0;simpa using this.symm
     exact mask_one ho h _ 0 (fun e he=>by simpa using he) (fun i hi=>by simp at hi) i hi
 exact key ops.toList [] (fun j=>by simp) (fun k m hk=>by simp at hk)
def drops (md:Region.Mode) (ops:Array Oper) (j:Nat):List Bool→List Nat→Bool
 |true::m,_::l=>drops md ops j m l
 |false::m,i::l=>((masks md ops.toList).getD j 0).testBit i&&drops md ops j m l
 | [],[]=>true
 |_,_=>false
theorem kx4 {j:Nat}: ∀ {m:List Bool} {l:List Fact} {ns:List Nat},l.map (·.1)=ns→drops md ops j m ns=true→ ∀h∈l,¬Waits md ops j h.1→h∈Kept m l
 | [],[],_,_,_,h,hh,_=>by cases hh
 | [],x::l,_,rfl,hd,_,_,_=>by simp [drops] at hd
 |true::m,[],_,_,_,h,hh,_=>by cases hh
 |false::m,[],_,_,_,h,hh,_=>by cases hh
 |true::m,x::l,_,rfl,hd,h,hh,hn=>by
  simp only [List.map_cons,drops] at hd
  simp only [Kept,List.mem_cons]
  rcases List.mem_cons.1 hh with rfl|hh
  ·exact .inl rfl
  ·exact .inr (kx4 rfl hd h hh hn)
 |false::m,x::l,_,rfl,hd,h,hh,hn=>by
  simp only [List.map_cons,drops,Bool.and_eq_true] at hd
  rcases List.mem_cons.1 hh with rfl|hh
  ·exfalso
   cases hq:(masks md ops.toList)[j]? with
   |none=>simp [List.getD,hq] at hd
   |some k=>
    simp [List.getD,hq] at hd
    exact hn (masks_good j k hq _ hd.1)
  ·exact kx4 (m:=m) rfl hd.2 h hh hn
def G (P:Program) (md:Region.Mode) (ops:Array Oper) (Q:Exit→Act→World→Prop) (L:List Fact) (fuel:Nat) (listed:Array Bool) (a:Act) (w:World):Prop:=
 Closed md ops listed→All L w→AnyG P md ops Q fuel (· ∈L) listed a w
theorem G.start {id:Nat} {a:Act} {w:World} (hm:P.follows .mixedOrders=true) (h:G P .any ops Q [] ops.size (Array.replicate ops.size false) a w.drew):(Code.region id ops true).wp P Q a w:=
 wp_region_any hm (any_of_G _ _ _ _ _ (h (fun k o ho hk=>by
  rcases Nat.lt_or_ge k ops.size with h'|h'
  ·simp [h'] at hk
  ·simp [h'] at hk) trivial))
theorem G.take {i:Nat} {oi:Oper} {v:Value} {F:World→Prop} {L:List Fact} {fuel:Nat} {listed:Array Bool} {a:Act} {w:World} (hi0:ops.toList[i]?=some oi) (hw:Region.wanted oi (yielded ops a.tmps)=true)
  (hs:Region.noSelect ops=true) (hf:Region.free md ops listed i=true) (hr:(Region.ready md ops listed).contains i=true)
  (hQ: ∀c a w,Q (.panic c) (a.put oi.dst v) w→Q (.panic c) a w) (hF:F w) (hy: ∀w,F w→(execOp a.eval oi).run P w= .ok (.value v) w)
  (h:G P md ops Q ((i,F)::L) fuel (listed.setIfInBounds i true) (a.put oi.dst v) w):G P md ops Q L (fuel+1) listed a w:=fun hc hA=>
 have hi:ops[i]?=some oi:=(Array.getElem?_toList).symm.trans hi0
 AnyG.first hi (Region.noSelect_spec hs) hQ fuel _ listed a w hc (Region.free_spec hi hf) (by simpa using hr) (.inl ⟨hw,hy⟩) hF hA.mem
  (AnyG.anti _ _ _ _ _ _ (fun x hx=> .inl (by rcases hx with rfl|hx<;>simp [*])) (h (hc.set (by simpa using hr)) ⟨hF,hA⟩))
theorem G.pure {i:Nat} {oi:Oper} {v:Value} {L:List Fact} {fuel:Nat} {listed:Array Bool} {a:Act} {w:World} (hi0:ops.toList[i]?=some oi) (hw:Region.wanted oi (yielded ops a.tmps)=true)
  (hs:Region.noSelect ops=true) (hf:Region.free md ops listed i=true) (hr:(Region.ready md ops listed).contains i=true)
  (hQ: ∀c a w,Q (.panic c) (a.put oi.dst v) w→Q (.panic c) a w) (hy: ∀w,(execOp a.eval oi).run P w= .ok (.value v) w)
  (h:G P md ops Q L fuel (listed.setIfInBounds i true) (a.put oi.dst v) w):G P md ops Q L (fuel+1) listed a w:=fun hc hA=>
 have hi:ops[i]?=some oi:=(Array.getElem?_toList).symm.trans hi0
 AnyG.first (F:=fun _=>True) hi (Region.noSelect_spec hs) hQ fuel _ listed a w hc (Region.free_spec hi hf) (by simpa using hr) (.inl ⟨hw,fun w _=>hy w⟩) trivial hA.mem
  (AnyG.anti _ (· ∈L) _ _ _ _ (fun x hx=>by rcases hx with rfl|hx;exact .inr (fun _=>trivial);exact .inl hx) (h (hc.set (by simpa using hr)) hA))
theorem G.skip {i:Nat} {oi:Oper} {L:List Fact} {fuel:Nat} {listed:Array Bool} {a:Act} {w:World} (hi0:ops.toList[i]?=some oi) (hw:Region.wanted oi (yielded ops a.tmps)=false)
  (hs:Region.noSelect ops=true) (hf:Region.free md ops listed i=true) (hr:(Region.ready md ops listed).contains i=true)
  (hQ: ∀c a w,Q (.panic c) (a.put oi.dst undef) w→Q (.panic c) a w)
  (h:G P md ops Q L fuel (listed.setIfInBounds i true) (a.put oi.dst undef) w):G P md ops Q L (fuel+1) listed a w:=fun hc hA=>
 have hi:ops[i]?=some oi:=(Array.getElem?_toList).symm.trans hi0
 AnyG.first (F:=fun _=>True) hi (Region.noSelect_spec hs) hQ fuel _ listed a w hc (Region.free_spec hi hf) (by simpa using hr) (.inr ⟨hw,rfl⟩) trivial hA.mem
  (AnyG.anti _ (· ∈L) _ _ _ _ (fun x hx=>by rcases hx with rfl|hx;exact .inr (fun _=>trivial);exact .inl hx) (h (hc.set (by simpa using hr)) hA))
theorem G.done {L:List Fact} {fuel:Nat} {listed:Array Bool} {a:Act} {w:World} (hr:Region.ready md ops listed= []) (h:Q .normal a w):G P md ops Q L fuel listed a w:=fun _ _=>by
 cases fuel with
 |zero=>exact ⟨hr,h⟩
 |succ n=>exact ⟨fun _=>h,by rw [hr];simp⟩
theorem G.step {j:Nat} {o:Oper} {m:List Bool} {L:List Fact} {fuel:Nat} {listed:Array Bool} {a:Act} {w:World} (ns:List Nat) (ho0:ops.toList[j]?=some o) (hr:Region.ready md ops listed= [j]) (hn:L.map (·.1)=ns) (hd:drops md ops j m ns=true)
  (h: ∀K:Act→World→Prop,Shut (∀a' w',All (Kept m L) w'→G P md ops Q (Kept m L) fuel (listed.setIfInBounds j true) a' w'→K a' w')→if Region.wanted o (yielded ops a.tmps)=true then Oper.wp P o a w K Q else K (a.put o.dst undef) w):G P md ops Q L (fuel+1) listed a w:=fun hc hA=>by
 have ho:ops[j]?=some o:=(Array.getElem?_toList).symm.trans ho0
 refine ⟨fun h0=>(by rw [hr] at h0;cases h0),fun i hi=>?_⟩
 have hi2:=hi
 rw [hr] at hi
 obtain rfl:i=j:=by simpa using hi
 refine wpOp_step ho (fun K' hK=>h K' (fun a' w' hA' hG=>hK a' w' ⟨fun x hx hx2=>hA'.mem x (kx4 hn hd x hx hx2),?_⟩))
 exact AnyG.anti _ _ _ _ _ _ (fun x hx=> .inl (kx4 hn hd x hx.1 hx.2)) (hG (hc.set hi2) hA')
end
end Go.Proofs.YtfaflipphkoiiaaDoor.Reg
namespace Go.Proofs.YtfaflipphkoiiaaDoor.Reg
section
variable {P:Program} {md:Region.Mode} {ops:Array Oper} {Q:Exit→Act→World→Prop}
theorem G.two {j1 j2:Nat} {o1 o2:Oper} {m1 m2:List Bool} {L:List Fact} {fuel:Nat} {listed:Array Bool} {a:Act} {w:World} (ns:List Nat) (ho1:ops.toList[j1]?=some o1) (ho2:ops.toList[j2]?=some o2) (hr:Region.ready md ops listed= [j1,j2]) (hn:L.map (·.1)=ns) (hd1:drops md ops j1 m1 ns=true) (hd2:drops md ops j2 m2 ns=true)
  (h1: ∀K:Act→World→Prop,Shut (∀a' w',All (Kept m1 L) w'→G P md ops Q (Kept m1 L) fuel (listed.setIfInBounds j1 true) a' w'→K a' w')→if Region.wanted o1 (yielded ops a.tmps)=true then Oper.wp P o1 a w K Q else K (a.put o1.dst undef) w)
  (h2: ∀K:Act→World→Prop,Shut (∀a' w',All (Kept m2 L) w'→G P md ops Q (Kept m2 L) fuel (listed.setIfInBounds j2 true) a' w'→K a' w')→if Region.wanted o2 (yielded ops a.tmps)=true then Oper.wp P o2 a w K Q else K (a.put o2.dst undef) w):G P md ops Q L (fuel+1) listed a w:=fun hc hA=>by
 refine ⟨fun h0=>(by rw [hr] at h0;cases h0),fun i hi=>?_⟩
 have hi2:=hi
 rw [hr] at hi
 have hij:i=j1∨i=j2:=by simpa using hi
 rcases hij with rfl|rfl
 ·have ho:ops[i]?=some o1:=(Array.getElem?_toList).symm.trans ho1
  refine wpOp_step ho (fun K' hK=>h1 K' (fun a' w' hA' hG=>hK a' w' ⟨fun x hx hx2=>hA'.mem x (kx4 hn hd1 x hx hx2),?_⟩))
  exact AnyG.anti _ _ _ _ _ _ (fun x hx=> .inl (kx4 hn hd1 x hx.1 hx.2)) (hG (hc.set hi2) hA')
 ·have ho:ops[i]?=some o2:=(Array.getElem?_toList).symm.trans ho2
  refine wpOp_step ho (fun K' hK=>h2 K' (fun a' w' hA' hG=>hK a' w' ⟨fun x hx hx2=>hA'.mem x (kx4 hn hd2 x hx hx2),?_⟩))
  exact AnyG.anti _ _ _ _ _ _ (fun x hx=> .inl (kx4 hn hd2 x hx.1 hx.2)) (hG (hc.set hi2) hA')
end
end Go.Proofs.YtfaflipphkoiiaaDoor.Reg
