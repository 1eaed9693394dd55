/-
  The printer's writer in memory; its builder, a field of it; put, endLine, words. The printer's put, endLine and words. The printer's isName, name and number.
-/
import Derived.Test.YtfficindoecpfaaGreatDoorPkMem
import Derived.Test.YtfficindoecpfaaGreatDoorPkPriP
import Derived.Test.YtfficindoecpfaaGreatDoorShelf
import Derived.Test.YtfficindoecpfaaGreatDoorProg
import Derived.Outline
import Derived.WalkLawsBesides
import Derived.RegionTactic
import Derived.BigRegion
import Derived.Shelf.RegionOpen
import Derived.Lib.AppendStr
import Derived.Lib.UnsafeStr
import Derived.Lib.Builder
import Derived.Lib.LaidTab
import Derived.Laws.Externs
import Derived.Deep.DeepCutAuto
import Derived.Handy
import Derived.Sort.Grow
import Derived.Deep.QuietTactic
import Derived.BigQuiet
set_option maxHeartbeats 64000000
set_option maxRecDepth 100000
set_option linter.unusedVariables false
set_option linter.unusedSimpArgs false
namespace Go.Proofs.YtfficindoecpfaaGreatDoor.Pt
open Go.RowKit Mem
theorem size_bld:(Tryz.prog.info? 59).map (·.size)=some 2:=by kernel_rfl
theorem lies_bld:liesAt Tryz.prog Tryz.prog.depth 61 (7/Tryz.prog.cellsOf 61) 0 59 1=true:=by kernel_rfl
theorem shape_of_blk {w:World} {b:Nat} {cs:Array Value} {t:TypeId} (h:w.heap[b]?=some (.cells cs t (0,0))):w.shape? b=some (t,cs.size):=by simp [World.shape?,h]
theorem copyCheck_used (b:Nat) (w:World) (h0:w.cell? ⟨b,0,none⟩=some (.pointer (some ⟨b,0,none⟩))):
  Calls Tryz.prog 139 #[.pointer (some ⟨b,0,none⟩)] w fun e w'=>e= .returned (.tuple #[])∧w'=w:=by
 obtain ⟨j,hj,_⟩:=Option.map_eq_some_iff.1 size_bld
 go_enter Tryz.func139,Tryz.ntmps139
 go_wp2
 rw [Lib.run_neq_ptr_same w _ Tryz.underlying56 hj]
 go_wp2
 go_end0
 exact ⟨rfl,rfl⟩
theorem copyCheck_fresh (b:Nat) (w:World) (h0:w.cell? ⟨b,0,none⟩=some (.pointer none)) (hsh:w.shape? b=some (61,7)) (hfz:w.frozen? ⟨b,0,none⟩=false):
  Calls Tryz.prog 139 #[.pointer (some ⟨b,0,none⟩)] w fun e w'=>e= .returned (.tuple #[])∧w'=w.setCell ⟨b,0,none⟩ (.pointer (some ⟨b,0,none⟩)):=by
 obtain ⟨j,hj,hjs⟩:=Option.map_eq_some_iff.1 size_bld
 go_enter Tryz.func139,Tryz.ntmps139
 go_wp2
 rw [Lib.run_to_unsafe w ⟨b,0,none⟩ Tryz.underlying56 Tryz.underlying149 hj (by rw [hjs];decide) hsh (by show 0<7;decide)]
 simp only [Result.andThen]
 rw [Oper.upon_value]
 go_wp2
 rw [run_callFunc_extern Tryz.func156 (by kernel_rfl) (by kernel_rfl) (by kernel_rfl) (e:=Extern.AbiNoEscape.same) (by kernel_rfl)]
 rw [Lib.run_noEscape]
 simp only [Result.andThen]
 rw [Oper.upon_value]
 go_wp2
 rw [Lib.run_from_unsafe w ⟨b,0,none⟩ Tryz.underlying149 Tryz.underlying56 hj hsh lies_bld]
 simp only [Result.andThen]
 rw [Oper.upon_value]
 go_wp2
 go_end0
 exact ⟨rfl,rfl⟩
structure St where
 F:Rs.Bytes
 last:Rs.Bytes
 toks:Nat
 items:Nat
 n:Nat
def lim:Nat:=1099511627776
def St.put (s:St) (x:Rs.Bytes):St:= {s with F:=s.F++x,n:=s.n+1}
def St.word (s:St) (x:Rs.Bytes):St:=⟨s.F++sepOf s.last x++x,x,s.toks+1,s.items,s.n+2⟩
def St.app (s:St) (ts:List Rs.Bytes):St:=ts.foldl St.word s
def St.line (s:St):St:= {s.put [10] with last:= []}
theorem St.app_nil (s:St):s.app []=s:=rfl
theorem St.app_cons (s:St) (x:Rs.Bytes) (l:List Rs.Bytes):s.app (x::l)=(s.word x).app l:=rfl
theorem St.app_app (s:St) (a b:List Rs.Bytes):(s.app a).app b=s.app (a++b):=by unfold St.app;rw [List.foldl_append]
theorem St.app_n (s:St) (l:List Rs.Bytes):(s.app l).n=s.n+2*l.length:=by
 induction l generalizing s with
 |nil=>rfl
 |cons x l ih=>rw [St.app_cons,ih];show s.n+2+2*l.length=_;rw [List.length_cons];omega
structure StOk (s:St):Prop where
 size:s.F.length≤32*s.n
 toks:s.toks≤s.n
 items:s.items≤s.n
 lim:s.n≤lim
theorem St.put_ok {s:St} (h:StOk s) {x:Rs.Bytes} (hx:x.length≤31) (hn:s.n+1≤Pt.lim):StOk (s.put x):=by
 have:=h.size;have:=h.toks;have:=h.items
 exact ⟨by show (s.F++x).length≤32*(s.n+1);rw [List.length_append];omega,by show s.toks≤s.n+1;omega,by show s.items≤s.n+1;omega,hn⟩
structure Env (w:World):Prop where
 wk: ∀i x,weekNames[i]?=some x→w.cell? ⟨1,i,none⟩=some (.string ⟨x.toArray⟩)
 st: ∀i x,[statusT 1,statusT 2,statusT 3,statusT 4][i]?=some x→w.cell? ⟨0,i,none⟩=some (.string ⟨x.toArray⟩)
 ml: ∃m,w.cell? ⟨3,0,none⟩=some (.int .i64 m)
 tab:Lib.TabIs Tryz.prog w "internal/strconv.uint64pow10" .u64 Lib.pow10Tab
theorem cell_fr2 {S:Nat→Prop} {w w':World} {g o:Nat} {v:Value} (hf:Fr S w w') (hs: ¬S g) (h:w.cell? ⟨g,o,none⟩=some v):w'.cell? ⟨g,o,none⟩=some v:=by
 have hg:g<w.heap.size:=by
  rcases Nat.lt_or_ge g w.heap.size with h'|h'
  ·exact h'
  ·simp [World.cell?,Array.getElem?_eq_none h'] at h
 have hb:=hf.block g hg hs
 unfold World.cell? at h ⊢
 simpa only [hb] using h
def wcells (p v:Value) (s:St) (k:Value):Array Value:= #[p,v,.int .i64 (s.F.length:Int),.int .i64 (s.toks:Int),.int .i64 (s.items:Int),.string ⟨s.last.toArray⟩,k]
structure WB (G:Nat) (P:Nat→Prop) (b:Nat) (k:Value) (s:St) (v:Value) (bs:List Value) (w:World):Prop where
 blk: ∃p,(p= .pointer none∨p= .pointer (some ⟨b,0,none⟩))∧w.heap[b]?=some (.cells (wcells p v s k) 61 (0,0))
 own:w.ownsRow G 5 1 v bs.length bs
 ne:v.ownBlock≠some b
 ap: ∀q,v.ownBlock=some q→ ¬P q
 len:bs.length≤20000
 txt:s.F.length≤20000→bs=Lib.byteCells s.F
structure WR (G:Nat) (P:Nat→Prop) (b:Nat) (k:Value) (s:St) (w:World):Prop where
 env:Env w
 low: ∀q,q<G→P q
 g7:7≤G
 ok:StOk s
 nb: ¬P b
 lt: ∀q,P q→q<w.heap.size
 wb: ∃v bs,WB G P b k s v bs w
abbrev WQ (P:Nat→Prop) (i G b:Nat) (k:Value) (s:St) (w:World):Prop:=WR G (fun q=>P q∨q=i) b k s w
abbrev FN (P:Nat→Prop) (w w':World):Prop:=Fr (fun q=> ¬P q) w w'
theorem pow_at:Tryz.prog.globalNamed "internal/strconv.uint64pow10" =some 4:=by kernel_rfl
theorem Env.fr {S:Nat→Prop} {w w':World} (h:Env w) (hf:Fr S w w') (hs: ∀q,q<7→ ¬S q):Env w':=by
 refine ⟨fun i x hx=>cell_fr2 hf (hs _ (by decide)) (h.wk i x hx),fun i x hx=>cell_fr2 hf (hs _ (by decide)) (h.st i x hx),?_,?_⟩
 ·obtain ⟨m,hm⟩:=h.ml
  exact ⟨m,cell_fr2 hf (hs _ (by decide)) hm⟩
 ·have h1:=h.tab
  unfold Lib.TabIs World.var? at h1 ⊢
  rw [pow_at] at h1 ⊢
  simp only [Option.bind_some] at h1 ⊢
  have hlt:4<w.heap.size:=by
   rcases Nat.lt_or_ge 4 w.heap.size with h2|h2
   ·exact h2
   ·rw [Array.getElem?_eq_none h2] at h1;cases h1
  rw [hf.block _ hlt (hs _ (by decide))]
  exact h1
theorem WB.fr {G:Nat} {P S:Nat→Prop} {b:Nat} {k:Value} {s:St} {v:Value} {bs:List Value} {w w':World} (h:WB G P b k s v bs w) (hf:Fr S w w') (hb: ¬S b) (hv: ∀q,v.ownBlock=some q→ ¬S q):WB G P b k s v bs w':=by
 obtain ⟨p,hp,hbk⟩:=h.blk
 refine ⟨⟨p,hp,hf.blk hbk hb⟩,⟨h.own.1,?_⟩,h.ne,h.ap,h.len,h.txt⟩
 rcases h.own.2 with h2|⟨g,cap,cur,hv2,hg,hh,r⟩
 ·exact .inl h2
 ·exact .inr ⟨g,cap,cur,hv2,hg,hf.blk hh (hv g (by rw [hv2];rfl)),r⟩
theorem WR.fr {G:Nat} {P S:Nat→Prop} {b:Nat} {k:Value} {s:St} {w w':World} (h:WR G P b k s w) (hf:Fr S w w') (hS: ∀q,S q→P q∧G≤q):WR G P b k s w':=by
 obtain ⟨v,bs,hw⟩:=h.wb
 have h7:=h.g7
 exact ⟨h.env.fr hf (fun q hq e=>by have:=(hS q e).2;omega),h.low,h.g7,h.ok,h.nb,fun q hq=>Nat.lt_of_lt_of_le (h.lt q hq) hf.size,v,bs,hw.fr hf (fun e=>h.nb (hS b e).1) (fun q hq e=>hw.ap q hq (hS q e).1)⟩
theorem WR.keep {G:Nat} {P:Nat→Prop} {b:Nat} {k:Value} {s:St} {w w':World} (h:WR G P b k s w) (hf:Fr (fun _=>False) w w'):WR G P b k s w':=h.fr hf (fun _ e=>e.elim)
theorem WR.mono {G:Nat} {P Q:Nat→Prop} {b:Nat} {k:Value} {s:St} {w:World} (h:WR G P b k s w) (hq: ∀q,Q q→P q) (hl: ∀q,q<G→Q q):WR G Q b k s w:=by
 obtain ⟨v,bs,hw⟩:=h.wb
 exact ⟨h.env,hl,h.g7,h.ok,fun e=>h.nb (hq _ e),fun q e=>h.lt q (hq q e),v,bs,hw.blk,hw.own,hw.ne,fun q e1 e2=>hw.ap q e1 (hq q e2),hw.len,hw.txt⟩
theorem WR.ext {G:Nat} {P:Nat→Prop} {b:Nat} {k:Value} {s:St} {w w':World} (h:WR G P b k s w) (hf:Fr (fun _=>False) w w') {i:Nat} (h1:w.heap.size≤i) (h2:i<w'.heap.size):WQ P i G b k s w':=by
 obtain ⟨v,bs,hw⟩:=h.wb
 obtain ⟨p,hp,hbk⟩:=hw.blk
 have hb:=jq7 hbk
 have hw':=hw.fr hf (fun e=>e) (fun _ _ e=>e)
 refine ⟨h.env.fr hf (fun _ _ e=>e),fun q hq=> .inl (h.low q hq),h.g7,h.ok,fun e=>?_,fun q e=>?_,v,bs,hw'.blk,hw'.own,hw'.ne,fun q e1 e2=>?_,hw'.len,hw'.txt⟩
 ·rcases e with e|e
  ·exact h.nb e
  ·omega
 ·rcases e with e|e
  ·exact Nat.lt_of_lt_of_le (h.lt q e) hf.size
  ·omega
 ·rcases e2 with e2|e2
  ·exact hw.ap q e1 e2
  ·have:=(own_lt hw.own q e1).2;omega
theorem WR.size {G:Nat} {P:Nat→Prop} {b:Nat} {k:Value} {s:St} {w:World} (h:WR G P b k s w):b<w.heap.size:=by
 obtain ⟨v,bs,hw⟩:=h.wb
 obtain ⟨p,hp,hbk⟩:=hw.blk
 exact jq7 hbk
theorem WR.g_le {G:Nat} {P:Nat→Prop} {b:Nat} {k:Value} {s:St} {w:World} (h:WR G P b k s w):G≤w.heap.size∧G≤b:=by
 have hb:G≤b:=Nat.le_of_not_lt fun e=>h.nb (h.low b e)
 exact ⟨Nat.le_of_lt (Nat.lt_of_le_of_lt hb h.size),hb⟩
theorem str_block {P:Program} {w w':World} {base n:Nat} {t u ty e:TypeId} {i:TypeInfo} (ht:P.underlying t=some (.slice e)) (hu:P.underlying u=some .string) (hi:P.info? e=some i) (hz:i.zero=some (.int .u8 0)) (hsize:i.size=1) (hby:i.bytes=1)
  {v v':Value} {xs:List Value} (hown:w.ownsRow base e 1 v n xs) (s:ByteArray) (hbytes:n+s.size≤140737488355328) (hr:(Builtin.append_ #[t,u] ty #[v,.string s]).run P w= .ok v' w') (hn:v'= .slice none 0 0↔v= .slice none 0 0∧s.size=0):
  ∀q,v'.ownBlock=some q→v.ownBlock=some q∨q=w.heap.size:=by
 intro q hq
 rcases hown.2 with ⟨rfl,rfl⟩|⟨g,cap,cur,rfl,hbg,hg,hnc,hcm,hcs,htake⟩
 ·by_cases hm:s.size=0
  ·rw [hn.2 ⟨rfl,hm⟩] at hq;cases hq
  ·rw [run_append_nil_string (P:=P) w t u ty e i (.int .u8 0) ht hu hi hz s (by omega) (by omega) (by rw [hby];omega)] at hr
   injection hr with hr _
   subst hr
   simp only [Value.ownBlock,Option.some.injEq] at hq
   exact .inr hq.symm
 ·have hcs':cur.size=cap:=by simpa using hcs
  by_cases hroom:n+s.size≤cap
  ·rw [Lib.run_append_room_string (P:=P) w t u ty e i ht hu hi hsize g n cap cur hg s hroom (by omega)] at hr
   injection hr with hr _
   subst hr
   simp only [Value.ownBlock,Option.some.injEq] at hq ⊢
   exact .inl hq
  ·have holds: ∀j u,xs[j]?=some u→w.cell? ((⟨g,0,none⟩:Addr).add j)=some u:=hown.cells (g:=g) rfl
   rw [Lib.run_append_grow_string (P:=P) w t u ty e i (.int .u8 0) ht hu hi hz ⟨g,0,none⟩ n cap xs (by rw [hsize];exact hown.1) holds s (by omega) (by omega) (by rw [hby];exact growslice_fits (by omega) (by omega))] at hr
   injection hr with hr _
   subst hr
   simp only [Value.ownBlock,Option.some.injEq] at hq
   exact .inr hq.symm
theorem wpList_append_str {P:Program} {w:World} {ops:Array Oper} {rest:List Oper} {o:Oper} {a:Act} {Q:Exit→Act→World→Prop} (hgd:o.guard=none) (sl x:Operand) (t u:TypeId)
  (ho:o.op= .call {callee:= .builtin .append,args:= #[sl,x],argTypes:= #[t,u]})
  (base:Nat) (e:TypeId) (i:TypeInfo) (ht:P.underlying t=some (.slice e)) (hu:P.underlying u=some .string) (hi:P.info? e=some i) (hz:i.zero=some (.int .u8 0))
  (hsize:i.size=1) (hby:i.bytes=1)
  (v:Value) (n:Nat) (xs:List Value) (hs:a.eval sl=v) (hown:w.ownsRow base e 1 v n xs) (s:ByteArray) (hx:a.eval x= .string s)
  (hbytes:n+s.size≤140737488355328) (hbase:base≤w.heap.size)
  (h: ∀v' w',w'.ownsRow base e 1 v' (n+s.size) (xs++Lib.strCells s)→w.grownBy w' v.ownBlock→(∀q,v'.ownBlock=some q→v.ownBlock=some q∨q=w.heap.size)→wpList P ops Q rest (a.put o.dst v') w'):wpList P ops Q (o::rest) a w:=by
 refine wpList_plain hgd fun K hK=>?_
 obtain ⟨v',w',hr,h2,h3,h4⟩:=Lib.run_append_own_string (P:=P) w base t u o.type e i ht hu hi hz hsize hby v n xs hown s (by unfold maxLen;omega) hbytes hbase
 have h5:=str_block ht hu hi hz hsize hby hown s hbytes hr h4
 unfold Oper.wp execOp
 simp only [ho,resolve,invoke,builtin,Sem.run_bind,Sem.run_pure,Result.andThen_ok,List.map_toArray,List.map_cons,List.map_nil,hs,hx,hr]
 exact hK _ _ (h v' w' h2 h3 h5)
theorem own_frb {S:Nat→Prop} {w w1:World} {base:Nat} {e:TypeId} {size:Nat} {v:Value} {n:Nat} {xs:List Value} (h:w.ownsRow base e size v n xs) (hf:Fr S w w1) (hs: ∀k,v.ownBlock=some k→ ¬S k):w1.ownsRow base e size v n xs:=by
 refine ⟨h.1,?_⟩
 rcases h.2 with h2|⟨g,cap,cur,hv,hg,hh,r⟩
 ·exact .inl h2
 ·exact .inr ⟨g,cap,cur,hv,hg,hf.blk hh (hs g (by rw [hv];rfl)),r⟩
theorem writeString_any (G b:Nat) (p v c2 c3 c4 c5 c6:Value) (bs:List Value) (x:Rs.Bytes) (w:World) (hp:p= .pointer none∨p= .pointer (some ⟨b,0,none⟩)) (hb:w.heap[b]?=some (.cells #[p,v,c2,c3,c4,c5,c6] 61 (0,0)))
  (hown:w.ownsRow G 5 1 v bs.length bs) (hne:v.ownBlock≠some b) (hlen:bs.length+x.length≤140737488355328) (hG:G≤w.heap.size):
  Calls Tryz.prog 111 #[.pointer (some ⟨b,0,none⟩),.string ⟨x.toArray⟩] w fun e w'=>e= .returned (.tuple #[.int .i64 (x.length:Int),.nilIface])∧
   ∃v',w'.heap[b]?=some (.cells #[.pointer (some ⟨b,0,none⟩),v',c2,c3,c4,c5,c6] 61 (0,0))∧w'.ownsRow G 5 1 v' (bs.length+x.length) (bs++Lib.byteCells x)∧v'.ownBlock≠some b∧(∀q,v'.ownBlock=some q→v.ownBlock=some q∨w.heap.size≤q)∧Fr (fun q=>q=b∨v.ownBlock=some q) w w':=by
 have key:Calls Tryz.prog 139 #[.pointer (some ⟨b,0,none⟩)] w fun e w'=>e= .returned (.tuple #[])∧w'.heap[b]?=some (.cells #[.pointer (some ⟨b,0,none⟩),v,c2,c3,c4,c5,c6] 61 (0,0))∧Fr (fun q=>q=b) w w':=by
  rcases hp with rfl|rfl
  ·refine (copyCheck_fresh b w (jq0 hb 0) (shape_of_blk hb) (jq1 hb 0)).mono ?_
   rintro e w' ⟨rfl,rfl⟩
   exact ⟨rfl,jq9 hb 0 _,(Fr.refl (fun q=>q=b) w).setb 0 _⟩
  ·refine (copyCheck_used b w (jq0 hb 0)).mono ?_
   rintro e w' ⟨rfl,rfl⟩
   exact ⟨rfl,hb,Fr.refl _ _⟩
 obtain ⟨i0,hi,hz0,hz1,hz2⟩:=info_parts (show (Tryz.prog.info? 5).map (fun i=>(i.zero,i.size,i.bytes))=some (some (.int .u8 0),1,1) by kernel_rfl)
 have HK:=hdd key
 have HO:=hdd hown
 have HN:=hdd hne
 clear key hown hne
 go_enter Tryz.func111,Tryz.ntmps111
 go_wp2_with fail
 refine HK.o.mono ?_
 rintro e w1 ⟨rfl,hb1,hf1⟩
 have HF1:=hdd hf1
 have HB1:=hdd hb1
 have HO1:Hid (w1.ownsRow G 5 1 v bs.length bs):=own_frb HO.o HF1.o (fun q hq e=>by have e:q=b:=e;exact HN.o (by rw [hq,e]))
 have c1:w1.cell? ⟨b,1,none⟩=some v:=jq0 hb1 1
 have hG1:G≤w1.heap.size:=Nat.le_trans hG hf1.size
 clear hb1 hf1 HK
 go_upto_region 2 with fail
 iterate 19 go_step
 refine wpList_append_str rfl _ _ 57 9 rfl G 5 i0 Tryz.underlying57 Tryz.underlying9 hi hz0 hz1 hz2 v _ _ rfl HO1.o ⟨x.toArray⟩ rfl hlen hG1 ?_
 intro v' w2 hown' hgrow hq
 have HB2:Hid (w2.heap[b]?=some (.cells #[.pointer (some ⟨b,0,none⟩),v,c2,c3,c4,c5,c6] 61 (0,0))):=(Fr.of_grown hgrow).blk HB1.o (fun e=>HN.o e)
 have HNE:Hid (v'.ownBlock≠some b):=fun e=>by
  rcases hq b e with h|h
  ·exact HN.o h
  ·have:=jq7 HB1.o;omega
 have d1:w2.cell? ⟨b,1,none⟩=some v:=jq0 HB2.o 1
 have f1:w2.frozen? ⟨b,1,none⟩=false:=jq1 HB2.o 1
 obtain ⟨A,n',cap,hv⟩: ∃A n' cap,v'= .slice A n' cap:=by
  rcases hown'.2 with ⟨hv,_⟩|⟨g,cap,cur,hv,_⟩
  ·exact ⟨_,_,_,hv⟩
  ·exact ⟨_,_,_,hv⟩
 subst hv
 have HO2:=hdd hown'
 have HG:=hdd hgrow
 have HQ:=hdd hq
 clear hown' hgrow hq
 go_wp2_with fail
 go_ret2
 have hfs:Fr (fun q=>q=b) w2 (w2.setCell ⟨b,1,none⟩ (.slice A n' cap)):=(Fr.refl (fun q=>q=b) w2).setb 1 _
 refine ⟨rfl,_,jq9 HB2.o 1 _,own_frb HO2.o hfs (fun q hq e=>HNE.o (by rw [hq,e])),HNE.o,fun q hq=>?_,?_⟩
 ·rcases HQ.o q hq with h|h
  ·exact .inl h
  ·have:=HF1.o.size;exact .inr (by omega)
 ·exact ((HF1.o.mono (T:=fun q=>q=b∨v.ownBlock=some q) (fun q _ e=> .inl e)).grown HG.o (fun k hk=> .inl (.inr hk))).trans (hfs.mono (fun q _ e=> .inl e))
end Go.Proofs.YtfficindoecpfaaGreatDoor.Pt
namespace Go.Proofs.YtfficindoecpfaaGreatDoor.Pt
open Go.RowKit Mem
abbrev sv (x:Rs.Bytes):Value:= .string ⟨x.toArray⟩
theorem bytes_app (a b:Rs.Bytes):Lib.byteCells (a++b)=Lib.byteCells a++Lib.byteCells b:=by unfold Lib.byteCells;rw [List.map_append]
theorem put_any {G:Nat} {P:Nat→Prop} {b:Nat} {k:Value} {s:St} {w:World} (h:WR G P b k s w) (x:Rs.Bytes) (hx:x.length≤31) (hn:s.n+1≤lim):
  Calls Tryz.prog 75 #[.pointer (some ⟨b,0,none⟩),.string ⟨x.toArray⟩] w fun e w'=>e= .returned (.tuple #[])∧WR G P b k (s.put x) w'∧FN P w w':=by
 obtain ⟨v,bs,hw⟩:=h.wb
 obtain ⟨p,hp,hbk⟩:=hw.blk
 have c2:w.cell? ⟨b,2,none⟩=some (.int .i64 (s.F.length:Int)):=jq0 hbk 2
 have f2:w.frozen? ⟨b,2,none⟩=false:=jq1 hbk 2
 have hF:s.F.length≤35184372088832:=by have h1:=h.ok.size;have h2:=h.ok.lim;unfold lim at h2;omega
 have i0:(0:Int)≤(s.F.length:Int):=Int.natCast_nonneg _
 have i1:(0:Int)≤(x.length:Int):=Int.natCast_nonneg _
 have e1:IntKind.i64.wrap ((s.F.length:Int)+(x.length:Int))=(s.F.length:Int)+(x.length:Int):=Go.IntWalk.i64_in _ (by omega)
 obtain ⟨w1,hw1⟩: ∃u,w.setCell ⟨b,2,none⟩ (.int .i64 ((s.F.length:Int)+(x.length:Int)))=u:=⟨_,rfl⟩
 have HB1:Hid (w1.heap[b]?=some (.cells (wcells p v (s.put x) k) 61 (0,0))):=by
  have e2:(s.F.length:Int)+(x.length:Int)=(((s.F++x).length:Nat):Int):=by rw [List.length_append,Int.natCast_add]
  rw [←hw1,e2]
  exact jq9 hbk 2 _
 have HF1:Hid (Fr (fun q=>q=b) w w1):=by rw [←hw1];exact (Fr.refl (fun q=>q=b) w).setb 2 _
 have HS:Hid (StOk (s.put x)):=St.put_ok h.ok hx hn
 have HO1:Hid (w1.ownsRow G 5 1 v bs.length bs):=own_frb hw.own HF1.o (fun q hq e=>by have e:q=b:=e;exact hw.ne (by rw [hq,e]))
 have HW:=hdd hw
 have HH:=hdd h
 have HP:=hdd hp
 have d2:w1.cell? ⟨b,2,none⟩=some (.int .i64 ((s.F.length:Int)+(x.length:Int))):=by
  have h1:=jq0 HB1.o 2
  rw [h1]
  show some (Value.int .i64 ((s.F++x).length:Int))=_
  rw [List.length_append,Int.natCast_add]
 clear hw hbk hp h
 by_cases hle:s.F.length+x.length≤20000
 ·have i2:(s.F.length:Int)+(x.length:Int)≤20000:=by omega
  have hbs:bs=Lib.byteCells s.F:=HW.o.txt (by omega)
  have hbl:bs.length=s.F.length:=by rw [hbs,Lib.byteCells_length]
  have HWS:=hdd (writeString_any G b p v _ _ _ _ _ bs x w1 HP.o HB1.o HO1.o HW.o.ne (by omega) (by have:=HH.o.g_le.1;have:=HF1.o.size;omega))
  have HBS:=hdd hbs;have HLE:=hdd hle;have HBL:=hdd hbl
  clear hbs hle hbl
  go_enter Tryz.func75,Tryz.ntmps75
  go_upto_region 1 with fail
  clear hw1 c2 f2
  go_wp2_with fail
  refine HWS.o.mono ?_
  rintro e w2 ⟨rfl,v',h1,h2,h3,h4,h5⟩
  have HB2:=hdd h1;have HO2:=hdd h2;have HN2:=hdd h3;have HQ2:=hdd h4;have HF2:=hdd h5
  clear h1 h2 h3 h4 h5 HWS d2
  go_wp2_with fail
  go_end0
  have hf:FN P w w2:=(HF1.o.mono (T:=fun q=> ¬P q) (fun q _ e=>by have e:q=b:=e;rw [e];exact HH.o.nb)).trans (HF2.o.mono (fun q _ e=>by
   rcases e with e|e
   ·rw [e];exact HH.o.nb
   ·exact HW.o.ap q e))
  refine ⟨rfl,⟨HH.o.env.fr hf (fun q hq e=>e (HH.o.low q (by have:=HH.o.g7;omega))),HH.o.low,HH.o.g7,HS.o,HH.o.nb,fun q hq=>Nat.lt_of_lt_of_le (HH.o.lt q hq) hf.size,v',bs++Lib.byteCells x,⟨_,.inr rfl,HB2.o⟩,?_,HN2.o,fun q e1 e2=>?_,?_,fun _=>?_⟩,hf⟩
  ·rw [List.length_append,Lib.byteCells_length];exact HO2.o
  ·rcases HQ2.o q e1 with h|h
   ·exact HW.o.ap q h e2
   ·have h1:=HH.o.lt q e2;have h2:=HF1.o.size;omega
  ·rw [List.length_append,Lib.byteCells_length,HBL.o];exact HLE.o
  ·show bs++Lib.byteCells x=Lib.byteCells (s.F++x)
   rw [bytes_app,HBS.o]
 ·have i2: ¬(s.F.length:Int)+(x.length:Int)≤20000:=by omega
  have HLE:=hdd hle
  clear hle
  go_enter Tryz.func75,Tryz.ntmps75
  go_upto_region 1 with fail
  clear hw1 c2 f2
  go_wp2_with fail
  go_end0
  have hf:FN P w w1:=HF1.o.mono (fun q _ e=>by have e:q=b:=e;rw [e];exact HH.o.nb)
  refine ⟨rfl,⟨HH.o.env.fr hf (fun q hq e=>e (HH.o.low q (by have:=HH.o.g7;omega))),HH.o.low,HH.o.g7,HS.o,HH.o.nb,fun q hq=>Nat.lt_of_lt_of_le (HH.o.lt q hq) hf.size,v,bs,⟨p,HP.o,HB1.o⟩,HO1.o,HW.o.ne,HW.o.ap,HW.o.len,fun e=>?_⟩,hf⟩
  have e:(s.F++x).length≤20000:=e
  rw [List.length_append] at e
  exact absurd e HLE.o
theorem set_last {G:Nat} {P:Nat→Prop} {b:Nat} {k:Value} {s:St} {w:World} (h:WR G P b k s w) (x:Rs.Bytes):WR G P b k {s with last:=x} (w.setCell ⟨b,5,none⟩ (sv x))∧FN P w (w.setCell ⟨b,5,none⟩ (sv x)):=by
 obtain ⟨v,bs,hw⟩:=h.wb
 obtain ⟨p,hp,hbk⟩:=hw.blk
 have hf0:Fr (fun q=>q=b) w (w.setCell ⟨b,5,none⟩ (sv x)):=(Fr.refl (fun q=>q=b) w).setb 5 _
 have hf:FN P w (w.setCell ⟨b,5,none⟩ (sv x)):=hf0.mono (fun q _ e=>by have e:q=b:=e;rw [e];exact h.nb)
 refine ⟨⟨h.env.fr hf (fun q hq e=>e (h.low q (by have:=h.g7;omega))),h.low,h.g7,⟨h.ok.size,h.ok.toks,h.ok.items,h.ok.lim⟩,h.nb,fun q hq=>Nat.lt_of_lt_of_le (h.lt q hq) hf.size,v,bs,⟨p,hp,jq9 hbk 5 _⟩,own_frb hw.own hf0 (fun q hq e=>by have e:q=b:=e;exact hw.ne (by rw [hq,e])),hw.ne,hw.ap,hw.len,hw.txt⟩,hf⟩
theorem jj8 {G:Nat} {P:Nat→Prop} {b:Nat} {k:Value} {s:St} {w:World} (h:WR G P b k s w):w.cell? ⟨b,5,none⟩=some (sv s.last)∧w.frozen? ⟨b,5,none⟩=false∧w.cell? ⟨b,3,none⟩=some (.int .i64 (s.toks:Int))∧w.frozen? ⟨b,3,none⟩=false∧w.cell? ⟨b,4,none⟩=some (.int .i64 (s.items:Int))∧w.frozen? ⟨b,4,none⟩=false∧w.cell? ⟨b,6,none⟩=some k:=by
 obtain ⟨v,bs,hw⟩:=h.wb
 obtain ⟨p,hp,hbk⟩:=hw.blk
 exact ⟨jq0 hbk 5,jq1 hbk 5,jq0 hbk 3,jq1 hbk 3,jq0 hbk 4,jq1 hbk 4,jq0 hbk 6⟩
theorem set_toks {G:Nat} {P:Nat→Prop} {b:Nat} {k:Value} {s:St} {w:World} (h:WR G P b k s w) (ht:s.toks+1≤s.n):WR G P b k {s with toks:=s.toks+1} (w.setCell ⟨b,3,none⟩ (.int .i64 ((s.toks:Int)+1)))∧FN P w (w.setCell ⟨b,3,none⟩ (.int .i64 ((s.toks:Int)+1))):=by
 obtain ⟨v,bs,hw⟩:=h.wb
 obtain ⟨p,hp,hbk⟩:=hw.blk
 have hf0:Fr (fun q=>q=b) w (w.setCell ⟨b,3,none⟩ (.int .i64 ((s.toks:Int)+1))):=(Fr.refl (fun q=>q=b) w).setb 3 _
 have hf:FN P w (w.setCell ⟨b,3,none⟩ (.int .i64 ((s.toks:Int)+1))):=hf0.mono (fun q _ e=>by have e:q=b:=e;rw [e];exact h.nb)
 refine ⟨⟨h.env.fr hf (fun q hq e=>e (h.low q (by have:=h.g7;omega))),h.low,h.g7,⟨h.ok.size,ht,h.ok.items,h.ok.lim⟩,h.nb,fun q hq=>Nat.lt_of_lt_of_le (h.lt q hq) hf.size,v,bs,⟨p,hp,jq9 hbk 3 _⟩,own_frb hw.own hf0 (fun q hq e=>by have e:q=b:=e;exact hw.ne (by rw [hq,e])),hw.ne,hw.ap,hw.len,hw.txt⟩,hf⟩
theorem set_items {G:Nat} {P:Nat→Prop} {b:Nat} {k:Value} {s:St} {w:World} (h:WR G P b k s w) (hn:s.n+1≤lim):WR G P b k {s with items:=s.items+1,n:=s.n+1} (w.setCell ⟨b,4,none⟩ (.int .i64 ((s.items:Int)+1)))∧FN P w (w.setCell ⟨b,4,none⟩ (.int .i64 ((s.items:Int)+1))):=by
 obtain ⟨v,bs,hw⟩:=h.wb
 obtain ⟨p,hp,hbk⟩:=hw.blk
 have hf0:Fr (fun q=>q=b) w (w.setCell ⟨b,4,none⟩ (.int .i64 ((s.items:Int)+1))):=(Fr.refl (fun q=>q=b) w).setb 4 _
 have hf:FN P w (w.setCell ⟨b,4,none⟩ (.int .i64 ((s.items:Int)+1))):=hf0.mono (fun q _ e=>by have e:q=b:=e;rw [e];exact h.nb)
 have:=h.ok.size;have:=h.ok.toks;have:=h.ok.items
 refine ⟨⟨h.env.fr hf (fun q hq e=>e (h.low q (by have:=h.g7;omega))),h.low,h.g7,⟨by show s.F.length≤32*(s.n+1);omega,by show s.toks≤s.n+1;omega,by show s.items+1≤s.n+1;omega,hn⟩,h.nb,fun q hq=>Nat.lt_of_lt_of_le (h.lt q hq) hf.size,v,bs,⟨p,hp,jq9 hbk 4 _⟩,own_frb hw.own hf0 (fun q hq e=>by have e:q=b:=e;exact hw.ne (by rw [hq,e])),hw.ne,hw.ap,hw.len,hw.txt⟩,hf⟩
theorem kv1 {G:Nat} {P:Nat→Prop} {b:Nat} {k:Value} {s:St} {w:World} (h:WR G P b k s w) (hn:s.n+1≤lim):
  Calls Tryz.prog 42 #[.pointer (some ⟨b,0,none⟩)] w fun e w'=>e= .returned (.tuple #[])∧WR G P b k s.line w'∧FN P w w':=by
 have HP:=hdd (put_any h [10] (by decide) hn)
 clear h
 go_enter Tryz.func42,Tryz.ntmps42
 go_wp2_with fail
 refine HP.o.mono ?_
 rintro e w1 ⟨rfl,h1,h2⟩
 have HW:=hdd h1;have HF:=hdd h2
 obtain ⟨c5,f5,_⟩:=jj8 h1
 clear h1 h2 HP
 go_wp2_with fail
 go_end0
 obtain ⟨h3,h4⟩:=set_last HW.o []
 exact ⟨rfl,h3,HF.o.trans h4⟩
theorem contains_any (hay x:Rs.Bytes) (w:World) (hs:hay.length≤100) (hm: ∃m,w.cell? ⟨3,0,none⟩=some (.int .i64 m)):
  Calls Tryz.prog 74 #[.string ⟨hay.toArray⟩,.string ⟨x.toArray⟩] w fun e w'=>e= .returned (.bool (Lib.contains hay x))∧w'=w:=by
 obtain ⟨m,hm⟩:=hm
 have h:=Tryz.strings_Contains ⟨hay.toArray⟩ ⟨x.toArray⟩ m w (by show hay.length<_;omega) hm
 simpa using h
theorem WR.bump {G:Nat} {P:Nat→Prop} {b:Nat} {k:Value} {s:St} {w:World} (h:WR G P b k s w) (hn:s.n+1≤lim):WR G P b k {s with n:=s.n+1} w:=by
 obtain ⟨v,bs,hw⟩:=h.wb
 have:=h.ok.size;have:=h.ok.toks;have:=h.ok.items
 exact ⟨h.env,h.low,h.g7,⟨by show s.F.length≤32*(s.n+1);omega,by show s.toks≤s.n+1;omega,by show s.items≤s.n+1;omega,hn⟩,h.nb,h.lt,v,bs,hw.blk,hw.own,hw.ne,hw.ap,hw.len,hw.txt⟩
theorem words_any {G:Nat} {P:Nat→Prop} {b:Nat} {k:Value} {s:St} {w:World} (h:WR G P b k s w) (ts:List Rs.Bytes) (g c:Nat) (hg:P g) (hrow: ∀i x,ts[i]?=some x→w.cell? ⟨g,i,none⟩=some (sv x)) (hts: ∀x∈ts,x.length≤31) (hn:s.n+2*ts.length≤lim):
  Calls Tryz.prog 38 #[.pointer (some ⟨b,0,none⟩),.slice (some ⟨g,0,none⟩) ts.length c] w fun e w'=>e= .returned (.tuple #[])∧WR G P b k (s.app ts) w'∧FN P w w':=by
 have HW0:Hid (WR G P b k (s.app (ts.take 0)) w):=h
 have HG:=hdd hg;have HR:=hdd hrow;have HT:=hdd hts;have HN:=hdd hn
 have hl:ts.length≤9223372036854775807:=by unfold lim at hn;omega
 clear h hg hrow hts hn
 go_enter Tryz.func38,Tryz.ntmps38
 go_wp2_with fail
 go_loopw [9] (fun i wr=> ∃j:Nat,i= .int .i64 j∧j≤ts.length∧Hid (WR G P b k (s.app (ts.take j)) wr)∧Hid (FN P w wr)) (fun i _=>ts.length-(intOf i).toNat)
 case atStart=>exact ⟨0,rfl,Nat.zero_le _,HW0,Fr.refl _ _⟩
 case round=>
  clear HW0
  obtain ⟨j,rfl,hj,HW,HF⟩:=hrel
  have i1:(0:Int)≤(j:Int):=Int.natCast_nonneg _
  by_cases hlt:j<ts.length
  ·have i2:(j:Int)<(ts.length:Int):=by omega
   obtain ⟨x,hx⟩: ∃x,ts[j]?=some x:=⟨_,List.getElem?_eq_getElem hlt⟩
   have cx:wr.cell? ⟨g,j,none⟩=some (.string ⟨x.toArray⟩):=cell_fr2 HF.o (fun e=>e HG.o) (HR.o j x hx)
   obtain ⟨s1,HS1⟩: ∃z,Hid (s.app (ts.take j)=z):=⟨_,rfl⟩
   have HW1:Hid (WR G P b k s1 wr):=by rw [←HS1.o];exact HW.o
   have HNX:Hid (s.app (ts.take (j+1))=s1.word x):=by
    show _=_
    rw [List.take_add_one,hx,←St.app_app,HS1.o];rfl
   have HN1:Hid (s1.n=s.n+2*j):=by
    show _=_
    rw [←HS1.o,St.app_n,List.length_take];omega
   have HLX:Hid (x.length≤31):=HT.o x (List.mem_of_getElem? hx)
   have HLT:=hdd hlt
   obtain ⟨c5,f5,c3,f3,_⟩:=jj8 HW1.o
   clear hx hlt HW
   go_upto_region 3 with fail
   go_cut [6] (fun s6 wx=>s6= .bool (joined s1.last x)∧wx=wr)
   case first=>
    have HC1:=hdd (contains_any [59,58,44,40,41,47,45] x wr (by decide) HW1.o.env.ml)
    have HC2:=hdd (contains_any [40,47,45] s1.last wr (by decide) HW1.o.env.ml)
    by_cases hl0:s1.last= []
    ·have hv:joined s1.last x=true:=by unfold joined;rw [hl0];rfl
     have HV:=hdd hv
     rw [hl0] at c5
     clear hl0 hv HC1 HC2
     go_wp2_with fail
     go_meet
     exact ⟨by rw [HV.o],rfl⟩
    ·have e0:(s1.last== [])=false:=by simpa using hl0
     cases hc1:Lib.contains [59,58,44,40,41,47,45] x with
     |true=>
      have HV:Hid (joined s1.last x=true):=by show _=_;unfold joined;rw [hc1];simp
      rw [hc1] at HC1
      clear hc1 hl0 HC2
      go_wp2_with fail
      refine HC1.o.mono ?_
      rintro e wq ⟨rfl,hwq⟩
      have hwq:=hwq.symm
      subst hwq
      go_wp2_with fail
      go_meet
      exact ⟨by rw [HV.o],rfl⟩
     |false=>
      have HV:Hid (joined s1.last x=Lib.contains [40,47,45] s1.last):=by show _=_;unfold joined;rw [hc1,show s1.last.isEmpty=false by simpa using hl0];rfl
      rw [hc1] at HC1
      clear hc1 hl0
      obtain ⟨cc,HCC⟩: ∃z,Hid (Lib.contains [40,47,45] s1.last=z):=⟨_,rfl⟩
      rw [HCC.o] at HC2
      go_wp2_with fail
      refine HC1.o.mono ?_
      rintro e wq ⟨rfl,hwq⟩
      have hwq:=hwq.symm
      subst hwq
      go_wp2_with fail
      refine HC2.o.mono ?_
      rintro e wq ⟨rfl,hwq⟩
      have hwq:=hwq.symm
      subst hwq
      go_wp2_with fail
      go_meet
      exact ⟨by rw [HV.o,HCC.o],rfl⟩
   obtain ⟨h6,hwc⟩:=hcut
   subst h6
   have hwc:=hwc.symm
   subst hwc
   have HLM:Hid (s1.n+2≤lim):=by have h1:=HN1.o;have h2:=HN.o;have h3:=HLT.o;show _≤_;omega
   cases hjo:joined s1.last x with
   |true=>
    have HST:Hid (({s1.put x with last:=x,toks:=s1.toks+1,n:=s1.n+1+1}:St)=s1.word x):=by
     show _=_
     unfold St.word St.put sepOf
     rw [if_pos hjo,List.append_nil]
    have HPT:=hdd (put_any HW1.o x HLX.o (by have:=HLM.o;omega))
    clear hjo c5 f5 c3 f3
    go_wp2_with fail
    refine HPT.o.mono ?_
    rintro e w2 ⟨rfl,h1,h2⟩
    have HW2:=hdd h1;have HF2:=hdd h2
    obtain ⟨c5,f5,c3,f3,_⟩:=jj8 h1
    clear h1 h2 HPT
    go_upto_region 8 with fail
    obtain ⟨w3,hw3⟩: ∃u,w2.setCell ⟨b,5,none⟩ (sv x)=u:=⟨_,rfl⟩
    obtain ⟨g1,g2⟩:=set_last HW2.o x
    rw [hw3] at g1 g2
    rw [hw3]
    clear hw3 c5 f5 c3 f3
    obtain ⟨c5,f5,c3',f3,_⟩:=jj8 g1
    have c3:w3.cell? ⟨b,3,none⟩=some (.int .i64 (s1.toks:Int)):=c3'
    clear c3'
    have HW3:=hdd g1;have HF3:=hdd g2
    clear g1 g2 c5 f5
    have i3:(0:Int)≤(s1.toks:Int):=Int.natCast_nonneg _
    have i4:(s1.toks:Int)≤1099511627776:=by have h1:=HW1.o.ok.toks;have h2:=HW1.o.ok.lim;unfold lim at h2;omega
    have HTK:Hid (s1.toks+1≤s1.n+1):=by have:=HW1.o.ok.toks;show _≤_;omega
    go_wp2_with fail
    obtain ⟨g1,g2⟩:=set_toks HW3.o (by have:=HTK.o;show s1.toks+1≤s1.n+1;omega)
    go_roundw
    case rel=>
     refine ⟨j+1,by go_num,HLT.o,?_,((HF.o.trans HF2.o).trans HF3.o).trans g2⟩
     rw [HNX.o,←HST.o]
     exact g1.bump (by have:=HLM.o;show s1.n+1+1≤lim;omega)
    case measure=>have:=HLT.o;simp [intOf];omega
   |false=>
    have HST:Hid (({(s1.put [32]).put x with last:=x,toks:=s1.toks+1}:St)=s1.word x):=by
     show _=_
     unfold St.word St.put sepOf
     rw [if_neg (by rw [hjo];decide)]
    have HPT:=hdd (put_any HW1.o [32] (by decide) (by have:=HLM.o;omega))
    clear hjo c5 f5 c3 f3
    go_wp2_with fail
    refine HPT.o.mono ?_
    rintro e w9 ⟨rfl,h1,h2⟩
    have HPT2:=hdd (put_any h1 x HLX.o (by have:=HLM.o;show s1.n+1+1≤lim;omega))
    have HF9:=hdd h2
    clear h1 h2 HPT
    go_wp2_with fail
    refine HPT2.o.mono ?_
    rintro e w2 ⟨rfl,h1,h2⟩
    have HW2:=hdd h1;have HF2:=hdd (HF9.o.trans h2)
    obtain ⟨c5,f5,c3,f3,_⟩:=jj8 h1
    clear h1 h2 HPT2
    go_upto_region 8 with fail
    obtain ⟨w3,hw3⟩: ∃u,w2.setCell ⟨b,5,none⟩ (sv x)=u:=⟨_,rfl⟩
    obtain ⟨g1,g2⟩:=set_last HW2.o x
    rw [hw3] at g1 g2
    rw [hw3]
    clear hw3 c5 f5 c3 f3
    obtain ⟨c5,f5,c3',f3,_⟩:=jj8 g1
    have c3:w3.cell? ⟨b,3,none⟩=some (.int .i64 (s1.toks:Int)):=c3'
    clear c3'
    have HW3:=hdd g1;have HF3:=hdd g2
    clear g1 g2 c5 f5
    have i3:(0:Int)≤(s1.toks:Int):=Int.natCast_nonneg _
    have i4:(s1.toks:Int)≤1099511627776:=by have h1:=HW1.o.ok.toks;have h2:=HW1.o.ok.lim;unfold lim at h2;omega
    have HTK:Hid (s1.toks+1≤s1.n+1):=by have:=HW1.o.ok.toks;show _≤_;omega
    go_wp2_with fail
    obtain ⟨g1,g2⟩:=set_toks HW3.o (by have:=HTK.o;show s1.toks+1≤s1.n+1+1;omega)
    go_roundw
    case rel=>
     refine ⟨j+1,by go_num,HLT.o,?_,((HF.o.trans HF2.o).trans HF3.o).trans g2⟩
     rw [HNX.o,←HST.o]
     exact g1
    case measure=>have:=HLT.o;simp [intOf];omega
  ·obtain rfl:j=ts.length:=by omega
   rw [List.take_length] at HW
   go_wp2_with fail
   go_end0
   exact ⟨rfl,HW.o,HF.o⟩
end Go.Proofs.YtfficindoecpfaaGreatDoor.Pt
namespace Go.Proofs.YtfficindoecpfaaGreatDoor.Pt
open Go.RowKit Mem
open Go.Sort (grow)
theorem isLetter_any (c:UInt8) (w:World):
  Calls Tryz.prog 112 #[.int .u8 (c.toNat:Int)] w fun e w'=>e= .returned (.bool (Lx.isLetter c))∧w'=w:=by
 have hc:c.toNat<256:=c.toNat_lt
 go_enter Tryz.func112,Tryz.ntmps112
 go_wp2
 all_goals
  go_ret
  exact ⟨ret_bool (by unfold Lx.isLetter;rw [Bool.eq_iff_iff];simp;omega),rfl⟩
theorem isNamePart_any (c:UInt8) (w:World):
  Calls Tryz.prog 113 #[.int .u8 (c.toNat:Int)] w fun e w'=>e= .returned (.bool (Lx.isWord c))∧w'=w:=by
 have hc:c.toNat<256:=c.toNat_lt
 have HL:=hdd (isLetter_any c w)
 cases h:Lx.isLetter c with
 |true=>
  have HV:Hid (Lx.isWord c=true):=by show _=_;unfold Lx.isWord;rw [h];rfl
  rw [h] at HL
  clear h
  go_enter Tryz.func113,Tryz.ntmps113
  go_wp2_with fail
  refine HL.o.mono ?_
  rintro e w' ⟨rfl,he⟩
  have he:=he.symm
  subst he
  go_wp2_with fail
  go_ret
  exact ⟨ret_bool HV.o.symm,rfl⟩
 |false=>
  have HV:Hid (Lx.isWord c=(decide (48≤c.toNat∧c.toNat≤57)||decide (c.toNat=95))):=by
   show _=_
   unfold Lx.isWord Lx.isDigit
   rw [h,Bool.eq_iff_iff];simp
  rw [h] at HL
  clear h
  go_enter Tryz.func113,Tryz.ntmps113
  go_wp2_with fail
  refine HL.o.mono ?_
  rintro e w' ⟨rfl,he⟩
  have he:=he.symm
  subst he
  go_wp2_with fail
  all_goals
   go_ret
   exact ⟨ret_bool (by rw [HV.o,Bool.eq_iff_iff];simp;omega),rfl⟩
theorem drop_get (x:Rs.Bytes) (k:Nat) (h:k<x.length):x.drop k=x[k]::x.drop (k+1):=List.drop_eq_getElem_cons h
theorem isName_any (x:Rs.Bytes) (w:World) (hx:x.length≤9223372036854775807):
  Calls Tryz.prog 76 #[.string ⟨x.toArray⟩] w fun e w'=>e= .returned (.bool (isName x))∧w'=w:=by
 by_cases h0:x= []
 ·subst h0
  go_enter Tryz.func76,Tryz.ntmps76
  go_wp2_with fail
  go_ret
  exact ⟨rfl,rfl⟩
 have e0:(x== [])=false:=by simpa using h0
 by_cases h24:24<x.length
 ·have i1:(24:Int)<(x.length:Int):=by omega
  have i2:decide ((24:Int)<(x.length:Int))=true:=decide_eq_true i1
  have HV:Hid (isName x=false):=by show _=_;unfold isName;rw [show decide (x.length≤24)=false from decide_eq_false (by omega)];simp
  clear h0
  go_enter Tryz.func76,Tryz.ntmps76
  go_wp2_with fail
  go_ret
  exact ⟨ret_bool HV.o.symm,rfl⟩
 have i1: ¬(24:Int)<(x.length:Int):=by omega
 have i2:decide ((24:Int)<(x.length:Int))=false:=decide_eq_false i1
 have hp:0<x.length:=List.length_pos_iff.2 h0
 have hz:(0:Int)<(x.length:Int):=by omega
 have HL:=hdd (isLetter_any (x[0]'hp) w)
 cases hl:Lx.isLetter (x[0]'hp) with
 |false=>
  have HV:Hid (isName x=false):=by
   show _=_
   cases x with
   |nil=>exact absurd rfl h0
   |cons c l=>unfold isName;simp at hl;simp [hl]
  rw [hl] at HL
  clear h0 hl
  go_enter Tryz.func76,Tryz.ntmps76
  go_wp2_with fail
  refine HL.o.mono ?_
  rintro e w' ⟨rfl,he⟩
  have he:=he.symm
  subst he
  go_wp2_with fail
  go_ret
  exact ⟨ret_bool HV.o.symm,rfl⟩
 |true=>
 have HV:Hid (isName x=decide (Lx.nameLen x=x.length)):=by
  show _=_
  cases x with
  |nil=>exact absurd rfl h0
  |cons c l=>unfold isName;simp at hl;simp only [hl,Bool.true_and];rw [show decide ((c::l).length≤24)=true from decide_eq_true (by omega)];rfl
 rw [hl] at HL
 clear h0 hl
 go_enter Tryz.func76,Tryz.ntmps76
 go_wp2_with fail
 refine HL.o.mono ?_
 rintro e w' ⟨rfl,he⟩
 have he:=he.symm
 subst he
 clear HL
 go_wp2_with fail
 go_loopw [20] (fun i wr=> ∃j:Nat,i= .int .i64 j∧j≤x.length∧Hid (wr=w)∧Hid (∀q,q<j→Lx.nameByte (x.drop q)=true)) (fun i _=>x.length-(intOf i).toNat)
 case atStart=>exact ⟨0,rfl,Nat.zero_le _,rfl,fun q h=>absurd h (Nat.not_lt_zero q)⟩
 case round=>
  obtain ⟨j,rfl,hj,HWR,HA⟩:=hrel
  have j1:(0:Int)≤(j:Int):=Int.natCast_nonneg _
  by_cases hlt:j<x.length
  ·have j2:(j:Int)<(x.length:Int):=by omega
   have hdr:=drop_get x j hlt
   obtain ⟨inner,hin⟩: ∃z:Bool,((x[j].toNat==46)&&match x.drop (j+1) with| []=>false|d::_=>Lx.isWord d)=z:=⟨_,rfl⟩
   have HNB:Hid (Lx.nameByte (x.drop j)=(Lx.isWord x[j]||inner)):=by
    show _=_
    rw [hdr,←hin]
    cases hd2:x.drop (j+1) with
    |nil=>simp [Lx.nameByte]
    |cons d l=>simp [Lx.nameByte]
   have HIN:=hdd hin
   have HLT:Hid (j<x.length):=hlt
   have hc:x[j].toNat<256:=x[j].toNat_lt
   have j3:IntKind.i64.wrap ((j:Int)+1)=(j:Int)+1:=Go.IntWalk.i64_in _ (by omega)
   clear hdr hin
   go_upto_region 6 with fail
   go_cut [4] (fun s4 wx=>s4= .bool inner∧wx=wr)
   case first=>
    by_cases h46:x[j].toNat=46
    ·have q46:((((⟨x.toArray⟩:ByteArray)[j]'hlt).toNat:Int)==46)=true:=by exact congrArg (fun n:Nat=>((n:Int)==46)) h46
     by_cases h1:j+1<x.length
     ·have k1:(j:Int)+1<(x.length:Int):=by omega
      have k2:decide ((j:Int)+1<(x.length:Int))=true:=decide_eq_true k1
      have HNP:=hdd (isNamePart_any (x[j+1]'h1) wr)
      have HV:Hid (inner=Lx.isWord (x[j+1]'h1)):=by
       show _=_
       rw [←HIN.o,drop_get x (j+1) h1,show (x[j].toNat==46)=true by rw [h46];rfl];rfl
      obtain ⟨z,HZ⟩: ∃z,Hid (Lx.isWord (x[j+1]'h1)=z):=⟨_,rfl⟩
      rw [HZ.o] at HNP HV
      clear h46
      go_wp2_with fail
      refine HNP.o.mono ?_
      rintro e wq ⟨rfl,he⟩
      have he:=he.symm
      subst he
      go_wp2_with fail
      go_meet
      exact ⟨by rw [HV.o],rfl⟩
     ·have k1: ¬(j:Int)+1<(x.length:Int):=by omega
      have k2:decide ((j:Int)+1<(x.length:Int))=false:=decide_eq_false k1
      have HV:Hid (inner=false):=by
       show _=_
       rw [←HIN.o,List.drop_eq_nil_of_le (by omega)];simp
      clear h46
      go_wp2_with fail
      go_meet
      exact ⟨by rw [HV.o],rfl⟩
    ·have q46:((((⟨x.toArray⟩:ByteArray)[j]'hlt).toNat:Int)==46)=false:=by show (((x[j]'hlt).toNat:Int)==46)=false;exact beq_eq_false_iff_ne.2 (by omega)
     have HV:Hid (inner=false):=by
      show _=_
      rw [←HIN.o,show (x[j].toNat==46)=false from beq_eq_false_iff_ne.2 h46];rfl
     clear h46
     go_wp2_with fail
     go_meet
     exact ⟨by rw [HV.o],rfl⟩
   obtain ⟨h4,hwc⟩:=hcut
   subst h4
   have hwc:=hwc.symm
   subst hwc
   cases inner with
   |true=>
    have HNX:Hid (∀q,q<j+1→Lx.nameByte (x.drop q)=true):=fun q hq=>by
     rcases Nat.lt_or_eq_of_le (Nat.le_of_lt_succ hq) with h|h
     ·exact HA.o q h
     ·rw [h,HNB.o];simp
    go_wp2_with fail
    go_roundw
    case rel=>exact ⟨j+1,by go_num,HLT.o,HWR,HNX⟩
    case measure=>have:=HLT.o;simp [intOf];omega
   |false=>
    have HNP:=hdd (isNamePart_any (x[j]'hlt) wr)
    cases hw:Lx.isWord (x[j]'hlt) with
    |true=>
     have HNX:Hid (∀q,q<j+1→Lx.nameByte (x.drop q)=true):=fun q hq=>by
      rcases Nat.lt_or_eq_of_le (Nat.le_of_lt_succ hq) with h|h
      ·exact HA.o q h
      ·rw [h,HNB.o,hw];rfl
     rw [hw] at HNP
     clear hw
     go_wp2_with fail
     refine HNP.o.mono ?_
     rintro e wq ⟨rfl,he⟩
     have he:=he.symm
     subst he
     go_wp2_with fail
     go_roundw
     case rel=>exact ⟨j+1,by go_num,HLT.o,HWR,HNX⟩
     case measure=>have:=HLT.o;simp [intOf];omega
    |false=>
     have HF:Hid (isName x=false):=by
      show _=_
      rw [HV.o]
      refine decide_eq_false fun e=>?_
      have h1:=Lx.nameLen_yes x j (by omega)
      rw [HNB.o,hw] at h1
      cases h1
     rw [hw] at HNP
     clear hw
     go_wp2_with fail
     refine HNP.o.mono ?_
     rintro e wq ⟨rfl,he⟩
     have he:=he.symm
     subst he
     go_wp2_with fail
     go_ret
     exact ⟨ret_bool HF.o.symm,HWR.o⟩
  ·obtain rfl:j=x.length:=by omega
   have HT:Hid (isName x=true):=by
    show _=_
    rw [HV.o]
    refine decide_eq_true ?_
    have h1:=Lx.kx9 x
    rcases Nat.lt_or_ge (Lx.nameLen x) x.length with h2|h2
    ·have h3:=Lx.nameLen_no x h2
     rw [HA.o _ h2] at h3
     cases h3
    ·omega
   go_wp2_with fail
   go_ret
   exact ⟨ret_bool HT.o.symm,HWR.o⟩
theorem jq3 {G:Nat} {P:Nat→Prop} {b:Nat} {k:Value} {s:St} {w:World} (h:WR G P b k s w) (ts:List Rs.Bytes) (cs:Array Value) (hcs:cs=(ts.map sv).toArray) (t:TypeId) (c:Nat) (hts: ∀x∈ts,x.length≤31) (hn:s.n+2*ts.length≤lim):
  Calls Tryz.prog 38 #[.pointer (some ⟨b,0,none⟩),.slice (some ⟨w.heap.size,0,none⟩) ts.length c] (w.alloc (.cells cs t)) fun e w'=>e= .returned (.tuple #[])∧WR G P b k (s.app ts) w'∧FN P w w':=by
 have hf:Fr (fun _=>False) w (w.alloc (.cells cs t)):=(Fr.refl _ w).alloc _
 have hb:(w.alloc (.cells cs t)).heap[w.heap.size]?=some (.cells cs t (0,0)):=jq2 rfl
 have h1:=h.ext hf (Nat.le_refl _) (jq7 hb)
 refine (words_any h1 ts w.heap.size c (.inr rfl) (fun i x hx=>?_) hts hn).mono ?_
 ·rw [jq0 hb,hcs]
  simp [hx]
 ·rintro e w' ⟨rfl,h2,h3⟩
  exact ⟨rfl,h2.mono (fun q hq=> .inl hq) h.low,(hf.mono (fun _ _ e=>e.elim)).trans' h3 (fun q hq e e2=>e (.inl e2))⟩
def PI:List PanicEntry:= [{v:= .iface 116 (.agg #[]),recovered:=false}]
def Out (P:Nat→Prop) (t:T) (R:List Rs.Bytes→World→Prop) (w:World) (e:Ending) (w':World):Prop:=
 (t=none∧e= .panicked PI∧FN P w w')∨ ∃ts,t=some ts∧e= .returned (.tuple #[])∧R ts w'∧FN P w w'
theorem name_len {x:Rs.Bytes} (h:isName x=true):x.length≤31:=by
 unfold isName at h
 simp only [Bool.and_eq_true,decide_eq_true_eq] at h
 omega
theorem name_any {G:Nat} {P:Nat→Prop} {b:Nat} {k:Value} {s:St} {w:World} {i o:Nat} {cs:Array Value} {t:TypeId} (h:WQ P i G b k s w) (hi: ¬P i) (hG: ∀q,q<G→P q) (x:Rs.Bytes) (hb:w.heap[i]?=some (.cells cs t (0,0))) (hc:cs[o]?=some (sv x)) (hx:x.length≤9223372036854775807) (hn:s.n+2≤lim):
  Calls Tryz.prog 39 #[.pointer (some ⟨b,0,none⟩),.pointer (some ⟨i,o,none⟩)] w (Out P (name x) (fun ts w'=>WQ P i G b k (s.app ts) w'∧w'.heap[i]?=some (.cells (cs.setIfInBounds o (sv [])) t (0,0))) w):=by
 have c0:w.cell? ⟨i,o,none⟩=some (.string ⟨x.toArray⟩):=(jq0 hb o).trans hc
 have HN:=hdd (isName_any x w hx)
 have HW:=hdd h;have HI:=hdd hi;have HB:=hdd hb;have HG:=hdd hG
 clear h hi hb hG
 cases hnm:isName x with
 |false=>
  have HT:Hid (name x=none):=by show _=_;unfold name;rw [hnm];rfl
  rw [hnm] at HN
  clear hnm
  go_enter Tryz.func39,Tryz.ntmps39
  go_wp2_with fail
  refine HN.o.mono ?_
  rintro e w' ⟨rfl,he⟩
  have he:=he.symm
  subst he
  go_wp2_with fail
  exact ⟨rfl,.inl ⟨HT.o,rfl,Fr.refl _ _⟩⟩
 |true=>
  have HT:Hid (name x=some [x]):=by show _=_;unfold name;rw [hnm];rfl
  have HX:=hdd (name_len hnm)
  rw [hnm] at HN
  clear hnm
  go_enter Tryz.func39,Tryz.ntmps39
  go_wp2_with fail
  refine HN.o.mono ?_
  rintro e w' ⟨rfl,he⟩
  have he:=he.symm
  subst he
  clear HN
  go_wp2_with fail
  refine (jq3 HW.o [x] _ rfl _ _ (fun y hy=>by simp at hy;subst hy;exact HX.o) (by simpa using hn)).mono ?_
  rintro e w1 ⟨rfl,h1,h2⟩
  have HW1:=hdd h1;have HF1:=hdd h2
  have HB1:Hid (w1.heap[i]?=some (.cells cs t (0,0))):=h2.blk HB.o (fun e=>e (.inr rfl))
  have c1:w1.cell? ⟨i,o,none⟩=some (.string ⟨x.toArray⟩):=(jq0 HB1.o o).trans hc
  have f1:w1.frozen? ⟨i,o,none⟩=false:=jq1 HB1.o o
  clear h1 h2 c0
  go_wp2_with fail
  go_end0
  have hf:Fr (fun q=>q=i) w1 (w1.setCell ⟨i,o,none⟩ (sv [])):=(Fr.refl (fun q=>q=i) w1).setb o _
  exact .inr ⟨[x],HT.o,rfl,⟨HW1.o.fr hf (fun q e=>⟨.inr e,by have e:q=i:=e;subst e;exact Nat.le_of_not_lt fun h=>HI.o (HG.o _ h)⟩),jq9 HB1.o o _⟩,(HF1.o.mono (fun q _ e e2=>e (.inl e2))).trans (hf.mono (fun q _ e e2=>by have e:q=i:=e;subst e;exact HI.o e2))⟩
theorem nDigits_le: ∀(k u:Nat),u<10^(k+1)→Lib.nDigits u≤k+1
 |0,u,h=>by rw [Lib.nDigits_small (by simpa using h)];exact Nat.le_refl _
 |k+1,u,h=>by
  by_cases h1:u<10
  ·rw [Lib.nDigits_small h1];omega
  ·rw [Lib.nDigits_big h1]
   have:=nDigits_le k (u/10) (by rw [Nat.pow_succ] at h;omega)
   omega
theorem dec_len {n:Int} (h0:0≤n) (h1:n≤999999999999):(dec n).length≤12:=by
 unfold dec Lib.itoa
 rw [if_neg (by omega),Lib.decDigits_length]
 exact nDigits_le 11 n.toNat (by show _<1000000000000;omega)
theorem fr_grow (S:Nat→Prop) (w:World) (k:Nat) (os:Array Obj):Fr S w (grow (w.drewN k) os):=
 ⟨rfl,rfl,rfl,by simp [grow,World.drewN],fun q hq _=>by
  show ((w.drewN k).heap++os)[q]?=_
  have h:q<(w.drewN k).heap.size:=hq
  rw [Array.getElem?_append_left h]
  rfl⟩
theorem number_any {G:Nat} {P:Nat→Prop} {b:Nat} {k:Value} {s:St} {w:World} {i o:Nat} {cs:Array Value} {t:TypeId} (h:WQ P i G b k s w) (hi: ¬P i) (hG: ∀q,q<G→P q) (x:Int) (hb:w.heap[i]?=some (.cells cs t (0,0))) (hc:cs[o]?=some (.int .i64 x)) (hn:s.n+2≤lim):
  Calls Tryz.prog 41 #[.pointer (some ⟨b,0,none⟩),.pointer (some ⟨i,o,none⟩)] w (Out P (number x) (fun ts w'=>WQ P i G b k (s.app ts) w'∧w'.heap[i]?=some (.cells (cs.setIfInBounds o (.int .i64 0)) t (0,0))) w):=by
 have c0:w.cell? ⟨i,o,none⟩=some (.int .i64 x):=(jq0 hb o).trans hc
 have HW:=hdd h;have HI:=hdd hi;have HB:=hdd hb;have HG:=hdd hG
 clear h hi hb hG
 by_cases h0:x<0
 ·have HT:Hid (number x=none):=by show _=_;unfold number;exact if_neg (by omega)
  have i1:decide (x<0)=true:=decide_eq_true h0
  go_enter Tryz.func41,Tryz.ntmps41
  go_wp2_with fail
  exact ⟨rfl,.inl ⟨HT.o,rfl,Fr.refl _ _⟩⟩
 have i1:decide (x<0)=false:=decide_eq_false h0
 by_cases h1:999999999999<x
 ·have HT:Hid (number x=none):=by show _=_;unfold number;exact if_neg (by omega)
  have i2:decide (999999999999<x)=true:=decide_eq_true h1
  go_enter Tryz.func41,Tryz.ntmps41
  go_wp2_with fail
  exact ⟨rfl,.inl ⟨HT.o,rfl,Fr.refl _ _⟩⟩
 have i2:decide (999999999999<x)=false:=decide_eq_false h1
 have HT:Hid (number x=some [dec x]):=by show _=_;unfold number;exact if_pos (by omega)
 have HL:Hid ((dec x).length≤31):=Nat.le_trans (dec_len (by omega) (by omega)) (by decide)
 have HIT:=hdd (Tryz.strconv_Itoa x (by omega) (by omega) w HW.o.env.tab)
 go_enter Tryz.func41,Tryz.ntmps41
 go_wp2_with fail
 refine HIT.o.mono ?_
 rintro e w1 ⟨rfl,kk,os,hw1⟩
 have HF0:Hid (Fr (fun _=>False) w w1):=by rw [hw1];exact fr_grow _ _ _ _
 have HW0:=hdd (HW.o.keep HF0.o)
 clear hw1 HIT
 go_wp2_with fail
 refine (jq3 HW0.o [dec x] _ rfl _ _ (fun y hy=>by simp at hy;subst hy;exact HL.o) (by simpa using hn)).mono ?_
 rintro e w2 ⟨rfl,h1,h2⟩
 have HW1:=hdd h1;have HF1:=hdd (HF0.o.mono (T:=fun q=> ¬P q) (fun _ _ e=>e.elim) |>.trans (h2.mono (fun q _ e e2=>e (.inl e2))))
 have HB1:Hid (w2.heap[i]?=some (.cells cs t (0,0))):=h2.blk (HF0.o.blk HB.o (fun e=>e)) (fun e=>e (.inr rfl))
 have c1:w2.cell? ⟨i,o,none⟩=some (.int .i64 x):=(jq0 HB1.o o).trans hc
 have f1:w2.frozen? ⟨i,o,none⟩=false:=jq1 HB1.o o
 clear h1 h2 c0
 go_wp2_with fail
 go_end0
 have hf:Fr (fun q=>q=i) w2 (w2.setCell ⟨i,o,none⟩ (.int .i64 0)):=(Fr.refl (fun q=>q=i) w2).setb o _
 exact .inr ⟨[dec x],HT.o,rfl,⟨HW1.o.fr hf (fun q e=>⟨.inr e,by have e:q=i:=e;subst e;exact Nat.le_of_not_lt fun h=>HI.o (HG.o _ h)⟩),jq9 HB1.o o _⟩,HF1.o.trans (hf.mono (fun q _ e e2=>by have e:q=i:=e;subst e;exact HI.o e2))⟩
end Go.Proofs.YtfficindoecpfaaGreatDoor.Pt
