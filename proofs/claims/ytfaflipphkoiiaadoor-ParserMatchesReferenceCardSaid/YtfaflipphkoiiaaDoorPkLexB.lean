/-
  What the function token of package lexer returns, or the panic with which it ends. What the function scan of package lexer returns, or the panic with which it ends. What the function Lex of package lexer returns. The tokens of a text as a relation on lists of bytes, and that it is what the plain lexer computes. No condition. Plain laws about the tokens of a text: what a continuation, a beginning, further gaps change. No condition.
-/
import Derived.Test.YtfaflipphkoiiaaDoorPkLex
import Derived.Test.YtfaflipphkoiiaaDoorShelf
import Derived.Lib.IndexAny
import Derived.Maps.AppendAt
import Derived.OwnWalk
import Derived.Outline
import Derived.Defers
import Derived.Recover
import Derived.RegionTactic
import Derived.ChangeAlike
import Derived.Laws.Pointers
import Derived.Test.YtfaflipphkoiiaaDoorLexPlain
set_option maxHeartbeats 64000000
set_option maxRecDepth 100000
set_option linter.unusedVariables false
namespace Go.Proofs.YtfaflipphkoiiaaDoor.Lx
open Go.RowKit
theorem sym_index (c:UInt8):Lib.indexByte (ByteArray.mk #[59,58,44,61,47,45,40,41,123,125]).data.toList ((c.toNat:Int).toNat.toUInt8)=Lib.indexByte syms c:=by
 have:((c.toNat:Int).toNat.toUInt8)=c:=by simp
 rw [this];rfl
theorem sym_yes (c:UInt8) (h:isSym c=true):0≤Lib.indexByte syms c:=by
 have:=Lib.contains_iff_indexByte syms c
 unfold isSym at h
 rw [h] at this
 simpa using this
theorem sym_no (c:UInt8) (h:isSym c=false):Lib.indexByte syms c<0:=by
 have:=Lib.contains_iff_indexByte syms c
 unfold isSym at h
 rw [h] at this
 simpa using this
theorem tokOf_drop (s:ByteArray) (k:Nat) (hk:k<s.size):tokOf ((bs s).drop k)=
  if isLetter s[k] then (if 24<nameLen ((bs s).drop k) then .error 3 else .ok (1,nameLen ((bs s).drop k),0))
  else if isDigit s[k] then
   (if 12<numLen ((bs s).drop k)∨wordAt ((bs s).drop (k+numLen ((bs s).drop k)))=true then .error 5 else .ok (2,numLen ((bs s).drop k),valFrom 0 (((bs s).drop k).take (numLen ((bs s).drop k)))))
  else if isSym s[k] then .ok (3,1,0) else .error 4:=by
 have hd:(bs s).drop k=s[k]::(bs s).drop (k+1):=jk1 s k hk
 rw [←List.drop_drop,hd]
 rfl
theorem kept4 {w w1:World} {c0 c1 c2 c3:Value} {T:TypeId} {B:Nat} (hb:Below B (w.alloc (.cells #[c0,c1,c2,c3] T)) w1) (hB:w.heap.size<B):
  w1.cell? ⟨w.heap.size,0,none⟩=some c0∧w1.cell? ⟨w.heap.size,1,none⟩=some c1∧w1.cell? ⟨w.heap.size,2,none⟩=some c2∧w1.cell? ⟨w.heap.size,3,none⟩=some c3∧
  w1.frozen? ⟨w.heap.size,0,none⟩=false∧w1.frozen? ⟨w.heap.size,1,none⟩=false∧w1.frozen? ⟨w.heap.size,2,none⟩=false∧w1.frozen? ⟨w.heap.size,3,none⟩=false:=
 ⟨(hb.cell (p:=⟨w.heap.size,0,none⟩) hB).trans (by simp),(hb.cell (p:=⟨w.heap.size,1,none⟩) hB).trans (by simp),(hb.cell (p:=⟨w.heap.size,2,none⟩) hB).trans (by simp),(hb.cell (p:=⟨w.heap.size,3,none⟩) hB).trans (by simp),
  (hb.frozen (p:=⟨w.heap.size,0,none⟩) hB).trans (by simp),(hb.frozen (p:=⟨w.heap.size,1,none⟩) hB).trans (by simp),(hb.frozen (p:=⟨w.heap.size,2,none⟩) hB).trans (by simp),(hb.frozen (p:=⟨w.heap.size,3,none⟩) hB).trans (by simp)⟩
theorem below_in {w w1:World} {o:Obj} {B:Nat} (hb:Below B (w.alloc o) w1) (hB:w.heap.size≤B):Below w.heap.size w w1:=
 ((Below.refl _ w).alloc (Nat.le_refl _) _).trans (hb.mono hB)
theorem token_name (s:ByteArray) (k len:Nat) (w:World) (hs:s.size≤9223372036854775807) (hk:k<s.size) (hl:isLetter s[k]=true) (hn:nameLen ((bs s).drop k)=len) (h24:len≤24):
  Calls Tryd.prog 55 #[.string s,.int .i64 (k:Int)] w fun e w'=>
   e= .returned (.agg #[.int .i64 1,.string (s.extract k (k+len)),.int .i64 0,.int .i64 k])∧Below w.heap.size w w':=by
 have Hn:=Lib.hid hn;clear hn
 go_enter Tryd.func55,Tryd.ntmps55
 go_wp2_with (go_at_call 82;refine (jj0 _ _).mono ?_;rintro e w' ⟨rfl,rfl⟩)
 refine (name_ok s k len _ hs (by omega) Hn.out h24).mono ?_
 rintro e w1 ⟨rfl,hb⟩
 obtain ⟨q0,q1,q2,q3,f0,f1,f2,f3⟩:=kept4 hb (by simp)
 have HB:=Lib.hid (below_in hb (by simp));clear hb
 go_wp2_with fail
 refine bodyPost_ret (v:= .agg #[.int .i64 1,.string (s.extract k (k+len)),.int .i64 0,.int .i64 k]) (by simp [results,Tryd.results55,go_sem,jv5,q0,q1,q2,q3]) rfl ⟨rfl,?_⟩
 have:=HB.out
 go_grown
theorem token_name_no (s:ByteArray) (k len:Nat) (w:World) (hs:s.size≤9223372036854775807) (hk:k<s.size) (hl:isLetter s[k]=true) (hn:nameLen ((bs s).drop k)=len) (h24:24<len):
  Calls Tryd.prog 55 #[.string s,.int .i64 (k:Int)] w fun e w'=>e= .panicked (fail_ 3 k)∧Below w.heap.size w w':=by
 have Hn:=Lib.hid hn;clear hn
 go_enter Tryd.func55,Tryd.ntmps55
 go_wp2_with (go_at_call 82;refine (jj0 _ _).mono ?_;rintro e w' ⟨rfl,rfl⟩)
 refine (name_no s k len _ hs (by omega) Hn.out h24).mono ?_
 rintro e w1 ⟨rfl,hb⟩
 exact ⟨rfl,rfl,below_in hb (by simp)⟩
theorem token_number (s:ByteArray) (k len v:Nat) (w:World) (hs:s.size≤9223372036854775807) (hk:k<s.size) (hl:isLetter s[k]=false) (hd:isDigit s[k]=true) (hn:numLen ((bs s).drop k)=len) (h12:len≤12)
  (hw:wordAt ((bs s).drop (k+len))=false) (hv:valFrom 0 (((bs s).drop k).take len)=v):
  Calls Tryd.prog 55 #[.string s,.int .i64 (k:Int)] w fun e w'=>
   e= .returned (.agg #[.int .i64 2,.string (s.extract k (k+len)),.int .i64 v,.int .i64 k])∧Below w.heap.size w w':=by
 have Hn:=Lib.hid hn;clear hn
 have HW:=Lib.hid hw;clear hw
 subst hv
 go_enter Tryd.func55,Tryd.ntmps55
 go_wp2_with (first|(go_at_call 82;refine (jj0 _ _).mono ?_;rintro e w' ⟨rfl,rfl⟩)|(go_at_call 84;refine (jk4 _ _).mono ?_;rintro e w' ⟨rfl,rfl⟩))
 refine (number_ok s k len _ hs (by omega) Hn.out h12 HW.out).mono ?_
 rintro e w1 ⟨rfl,hb⟩
 obtain ⟨q0,q1,q2,q3,f0,f1,f2,f3⟩:=kept4 hb (by simp)
 have HB:=Lib.hid (below_in hb (by simp));clear hb
 go_wp2_with fail
 refine bodyPost_ret (v:= .agg #[.int .i64 2,.string (s.extract k (k+len)),.int .i64 (valFrom 0 (((bs s).drop k).take len):Nat),.int .i64 k]) (by simp [results,Tryd.results55,go_sem,jv5,q0,q1,q2,q3]) rfl ⟨rfl,?_⟩
 have:=HB.out
 go_grown
theorem token_number_no (s:ByteArray) (k len:Nat) (w:World) (hs:s.size≤9223372036854775807) (hk:k<s.size) (hl:isLetter s[k]=false) (hd:isDigit s[k]=true) (hn:numLen ((bs s).drop k)=len)
  (hw:12<len∨wordAt ((bs s).drop (k+len))=true):
  Calls Tryd.prog 55 #[.string s,.int .i64 (k:Int)] w fun e w'=>e= .panicked (fail_ 5 k)∧Below w.heap.size w w':=by
 have Hn:=Lib.hid hn;clear hn
 have HW:=Lib.hid hw;clear hw
 go_enter Tryd.func55,Tryd.ntmps55
 go_wp2_with (first|(go_at_call 82;refine (jj0 _ _).mono ?_;rintro e w' ⟨rfl,rfl⟩)|(go_at_call 84;refine (jk4 _ _).mono ?_;rintro e w' ⟨rfl,rfl⟩))
 refine (number_no s k len _ hs (by omega) Hn.out HW.out).mono ?_
 rintro e w1 ⟨rfl,hb⟩
 exact ⟨rfl,rfl,below_in hb (by simp)⟩
theorem token_symbol (s:ByteArray) (k:Nat) (w:World) (hs:s.size≤9223372036854775807) (hk:k<s.size) (hl:isLetter s[k]=false) (hd:isDigit s[k]=false) (hy:isSym s[k]=true):
  Calls Tryd.prog 55 #[.string s,.int .i64 (k:Int)] w fun e w'=>
   e= .returned (.agg #[.int .i64 3,.string (s.extract k (k+1)),.int .i64 0,.int .i64 k])∧Below w.heap.size w w':=by
 have hsl:=sl_str_one s k (by omega)
 have hi:=sym_yes _ hy
 go_enter Tryd.func55,Tryd.ntmps55
 go_wp2_with (first|(go_at_call 82;refine (jj0 _ _).mono ?_;rintro e w' ⟨rfl,rfl⟩)|(go_at_call 84;refine (jk4 _ _).mono ?_;rintro e w' ⟨rfl,rfl⟩))
 refine (Tryd.strings_IndexByte _ _ _).mono ?_
 rintro e w' ⟨rfl,rfl⟩
 rw [sym_index]
 generalize Lib.indexByte syms s[k]=i at*
 go_wp2_with fail
 go_returns
 exact ⟨rfl,by go_grown⟩
theorem token_char (s:ByteArray) (k:Nat) (w:World) (hs:s.size≤9223372036854775807) (hk:k<s.size) (hl:isLetter s[k]=false) (hd:isDigit s[k]=false) (hy:isSym s[k]=false):
  Calls Tryd.prog 55 #[.string s,.int .i64 (k:Int)] w fun e w'=>e= .panicked (fail_ 4 k)∧Below w.heap.size w w':=by
 have hi:=sym_no _ hy
 go_enter Tryd.func55,Tryd.ntmps55
 go_wp2_with (first|(go_at_call 82;refine (jj0 _ _).mono ?_;rintro e w' ⟨rfl,rfl⟩)|(go_at_call 84;refine (jk4 _ _).mono ?_;rintro e w' ⟨rfl,rfl⟩))
 refine (Tryd.strings_IndexByte _ _ _).mono ?_
 rintro e w' ⟨rfl,rfl⟩
 rw [sym_index]
 generalize Lib.indexByte syms s[k]=i at*
 go_wp2_with fail
 exact ⟨rfl,rfl,by go_grown⟩
theorem token_ok (s:ByteArray) (k kd len v:Nat) (w:World) (hs:s.size≤9223372036854775807) (hk:k<s.size) (h:tokOf ((bs s).drop k)= .ok (kd,len,v)):
  Calls Tryd.prog 55 #[.string s,.int .i64 (k:Int)] w fun e w'=>
   e= .returned (.agg #[.int .i64 kd,.string (s.extract k (k+len)),.int .i64 v,.int .i64 k])∧Below w.heap.size w w':=by
 rw [tokOf_drop s k hk] at h
 by_cases hl:isLetter s[k]=true
 ·rw [if_pos hl] at h
  by_cases h24:24<nameLen ((bs s).drop k)
  ·rw [if_pos h24] at h;cases h
  ·rw [if_neg h24] at h
   injection h with h
   simp only [Prod.mk.injEq] at h
   obtain ⟨rfl,rfl,rfl⟩:=h
   exact token_name s k _ w hs hk hl rfl (by omega)
 ·rw [if_neg hl] at h
  have hl':isLetter s[k]=false:=by simpa using hl
  by_cases hd:isDigit s[k]=true
  ·rw [if_pos hd] at h
   by_cases hb:12<numLen ((bs s).drop k)∨wordAt ((bs s).drop (k+numLen ((bs s).drop k)))=true
   ·rw [if_pos hb] at h;cases h
   ·rw [if_neg hb] at h
    injection h with h
    simp only [Prod.mk.injEq] at h
    obtain ⟨rfl,rfl,rfl⟩:=h
    have hb1: ¬12<numLen ((bs s).drop k):=fun x=>hb (.inl x)
    have hb2:wordAt ((bs s).drop (k+numLen ((bs s).drop k)))=false:=by
     cases hx:wordAt ((bs s).drop (k+numLen ((bs s).drop k))) with
     |false=>rfl
     |true=>exact absurd (.inr hx) hb
    exact token_number s k _ _ w hs hk hl' hd rfl (by omega) hb2 rfl
  ·rw [if_neg hd] at h
   have hd':isDigit s[k]=false:=by simpa using hd
   by_cases hy:isSym s[k]=true
   ·rw [if_pos hy] at h
    injection h with h
    simp only [Prod.mk.injEq] at h
    obtain ⟨rfl,rfl,rfl⟩:=h
    exact token_symbol s k w hs hk hl' hd' hy
   ·rw [if_neg hy] at h;cases h
theorem token_no (s:ByteArray) (k er:Nat) (w:World) (hs:s.size≤9223372036854775807) (hk:k<s.size) (h:tokOf ((bs s).drop k)= .error er):
  Calls Tryd.prog 55 #[.string s,.int .i64 (k:Int)] w fun e w'=>e= .panicked (fail_ er k)∧Below w.heap.size w w':=by
 rw [tokOf_drop s k hk] at h
 by_cases hl:isLetter s[k]=true
 ·rw [if_pos hl] at h
  by_cases h24:24<nameLen ((bs s).drop k)
  ·rw [if_pos h24] at h
   injection h with h
   subst h
   exact token_name_no s k _ w hs hk hl rfl h24
  ·rw [if_neg h24] at h;cases h
 ·rw [if_neg hl] at h
  have hl':isLetter s[k]=false:=by simpa using hl
  by_cases hd:isDigit s[k]=true
  ·rw [if_pos hd] at h
   by_cases hb:12<numLen ((bs s).drop k)∨wordAt ((bs s).drop (k+numLen ((bs s).drop k)))=true
   ·rw [if_pos hb] at h
    injection h with h
    subst h
    exact token_number_no s k _ w hs hk hl' hd rfl hb
   ·rw [if_neg hb] at h;cases h
  ·rw [if_neg hd] at h
   have hd':isDigit s[k]=false:=by simpa using hd
   by_cases hy:isSym s[k]=true
   ·rw [if_pos hy] at h;cases h
   ·rw [if_neg hy] at h
    injection h with h
    subst h
    exact token_char s k w hs hk hl' hd' (by simpa using hy)
end Go.Proofs.YtfaflipphkoiiaaDoor.Lx
namespace Go.Proofs.YtfaflipphkoiiaaDoor.Lx
open Go.RowKit
def cellsOf (t:Tok):List Value:= [.int .i64 t.kind,.string ⟨t.text.toArray⟩,.int .i64 t.n,.int .i64 t.pos]
def cellsAll (ts:List Tok):List Value:=ts.flatMap cellsOf
theorem cellsAll_snoc (ts:List Tok) (t:Tok):cellsAll (ts++ [t])=cellsAll ts++cellsOf t:=by simp [cellsAll]
theorem info_tok:(Tryd.prog.info? 40).map (fun i=>(i.zero,i.size,i.bytes))=some (some (.agg #[.int .i64 0,.string ⟨#[]⟩,.int .i64 0,.int .i64 0]),4,40):=by kernel_rfl
theorem mk_bs (x:ByteArray):(⟨(bs x).toArray⟩:ByteArray)=x:=by cases x;simp [bs]
theorem text_of (s:ByteArray) (p len:Nat):s.extract p (p+len)=⟨(((bs s).drop p).take len).toArray⟩:=by
 rw [←mk_bs (s.extract p (p+len)),bs_extract]
 congr 3
 omega
theorem own_lt {w:World} {base:Nat} {e:TypeId} {size:Nat} {v:Value} {n:Nat} {xs:List Value} (h:w.ownsRow base e size v n xs): ∀g,v.ownBlock=some g→base≤g∧g<w.heap.size:=by
 intro g hg
 rcases h.2 with ⟨rfl,_⟩|⟨g',cap,cur,rfl,hb,hh,_⟩
 ·cases hg
 ·simp only [Value.ownBlock] at hg
  injection hg with hg
  subst hg
  refine ⟨hb,?_⟩
  rcases Nat.lt_or_ge g' w.heap.size with hlt|hge
  ·exact hlt
  ·rw [Array.getElem?_eq_none hge] at hh;cases hh
theorem kz5 {w w1:World} {base:Nat} {e:TypeId} {size:Nat} {v:Value} {n:Nat} {xs:List Value} (h:w.ownsRow base e size v n xs) (hb:Below w.heap.size w w1):w1.ownsRow base e size v n xs:=by
 refine ⟨h.1,?_⟩
 rcases h.2 with h2|⟨g,cap,cur,hv,hg,hh,r⟩
 ·exact .inl h2
 ·refine .inr ⟨g,cap,cur,hv,hg,?_,r⟩
  have hlt:g<w.heap.size:=by
   rcases Nat.lt_or_ge g w.heap.size with hlt|hge
   ·exact hlt
   ·rw [Array.getElem?_eq_none hge] at hh;cases hh
  rw [hb.block g hlt];exact hh
def ScanEnd (s:ByteArray) (B:Nat) (e:Ending) (w':World):Prop:=
 match lexP (s.size+1) (bs s) (gapLen false (bs s)) 0 with
 | .ok ts=> ∃v,e= .returned v∧w'.ownsRow B 40 4 v ts.length (cellsAll ts)
 | .error (er,p)=>e= .panicked (fail_ er p)
theorem ScanEnd.of_ok {s:ByteArray} {B:Nat} {e:Ending} {w':World} {ts:List Tok} {v:Value} (h:lexP (s.size+1) (bs s) (gapLen false (bs s)) 0= .ok ts) (he:e= .returned v) (ho:w'.ownsRow B 40 4 v ts.length (cellsAll ts)):ScanEnd s B e w':=by
 unfold ScanEnd;rw [h];exact ⟨v,he,ho⟩
theorem ScanEnd.of_err {s:ByteArray} {B:Nat} {e:Ending} {w':World} {er p:Nat} (h:lexP (s.size+1) (bs s) (gapLen false (bs s)) 0= .error (er,p)) (he:e= .panicked (fail_ er p)):ScanEnd s B e w':=by
 unfold ScanEnd;rw [h];exact he
def ScanRel (s:ByteArray) (w:World) (ts:List Tok) (p:Nat) (v:Value) (wr:World):Prop:=
 p≤s.size∧ts.length≤5000∧wr.ownsRow w.heap.size 40 4 v ts.length (cellsAll ts)∧Below w.heap.size w wr∧
  ∃f,s.size-p<f∧comb ts (lexP f (bs s) p ts.length)=lexP (s.size+1) (bs s) (gapLen false (bs s)) 0
theorem gap_le (s:ByteArray) (q:Nat) (h:q≤s.size):q+gapLen false ((bs s).drop q)≤s.size:=by
 have:=gapLen_le false ((bs s).drop q);rw [List.length_drop,jx7] at this;omega
theorem ScanRel.start (s:ByteArray) (w w1:World) (hb:Below w.heap.size w w1):ScanRel s w [] (gapLen false (bs s)) (.slice none 0 0) w1:=by
 have:=gap_le s 0 (by omega)
 simp only [Nat.zero_add,List.drop_zero] at this
 refine ⟨this,by simp,⟨by simp [cellsAll],.inl ⟨rfl,rfl⟩⟩,hb,s.size+1,by omega,comb_nil _⟩
theorem ScanRel.done {s:ByteArray} {w wr:World} {ts:List Tok} {p:Nat} {v:Value} (h:ScanRel s w ts p v wr) (hp: ¬p<s.size):ScanEnd s w.heap.size (.returned v) wr:=by
 obtain ⟨h1,h2,h3,h4,f,hf,hc⟩:=h
 obtain ⟨f,rfl⟩: ∃g,f=g+1:=⟨f-1,by omega⟩
 rw [lexP_end _ _ _ _ (by rw [jx7];omega)] at hc
 exact .of_ok (by rw [←hc];simp [comb]) rfl h3
theorem ScanRel.err {s:ByteArray} {w wr w':World} {ts:List Tok} {p er:Nat} {v:Value} (h:ScanRel s w ts p v wr) (hp:p<s.size) (ht:tokOf ((bs s).drop p)= .error er):ScanEnd s w.heap.size (.panicked (fail_ er p)) w':=by
 obtain ⟨h1,h2,h3,h4,f,hf,hc⟩:=h
 obtain ⟨f,rfl⟩: ∃g,f=g+1:=⟨f-1,by omega⟩
 rw [lexP_err _ _ _ _ _ (by rw [jx7];omega) ht] at hc
 exact .of_err (by rw [←hc];simp [comb]) rfl
theorem ScanRel.full {s:ByteArray} {w wr w':World} {ts:List Tok} {p:Nat} {v:Value} {x:Nat×Nat×Nat} (h:ScanRel s w ts p v wr) (hp:p<s.size) (ht:tokOf ((bs s).drop p)= .ok x) (h5:ts.length=5000):ScanEnd s w.heap.size (.panicked (fail_ 3 p)) w':=by
 obtain ⟨h1,h2,h3,h4,f,hf,hc⟩:=h
 obtain ⟨f,rfl⟩: ∃g,f=g+1:=⟨f-1,by omega⟩
 rw [h5,lexP_full _ _ _ _ (by rw [jx7];omega) ht] at hc
 exact .of_err (by rw [←hc];simp [comb]) rfl
theorem ScanRel.step {s:ByteArray} {w wr w':World} {ts:List Tok} {p k len n:Nat} {v v':Value} (h:ScanRel s w ts p v wr) (hp:p<s.size) (ht:tokOf ((bs s).drop p)= .ok (k,len,n)) (h5:ts.length≠5000)
  (ho:w'.ownsRow w.heap.size 40 4 v' (ts.length+1) (cellsAll ts++ [.int .i64 k,.string (s.extract p (p+len)),.int .i64 n,.int .i64 p])) (hb:Below w.heap.size w w'):
  ScanRel s w (ts++ [⟨k,((bs s).drop p).take len,n,p⟩]) (p+len+gapLen false ((bs s).drop (p+len))) v' w':=by
 obtain ⟨h1,h2,h3,h4,f,hf,hc⟩:=h
 obtain ⟨f,rfl⟩: ∃g,f=g+1:=⟨f-1,by omega⟩
 have hl:=tokOf_len _ _ _ _ ht
 rw [List.length_drop,jx7] at hl
 rw [lexP_step _ _ _ _ _ _ _ (by rw [jx7];omega) ht h5,comb_comb] at hc
 refine ⟨gap_le s _ (by omega),by simp;omega,?_,hb,f,by omega,by rw [List.length_append];exact hc⟩
 rw [List.length_append,cellsAll_snoc]
 rw [text_of] at ho
 exact ho
theorem own_form {w:World} {base:Nat} {e:TypeId} {size:Nat} {v:Value} {n:Nat} {xs:List Value} (h:w.ownsRow base e size v n xs): ∃A cap,v= .slice A n cap:=by
 rcases h.2 with ⟨rfl,rfl⟩|⟨g,cap,cur,rfl,_⟩
 ·exact ⟨_,_,rfl⟩
 ·exact ⟨_,_,rfl⟩
theorem ScanRel.form {s:ByteArray} {w wr:World} {ts:List Tok} {p:Nat} {v:Value} (h:ScanRel s w ts p v wr): ∃A cap,v= .slice A ts.length cap:=own_form h.2.2.1
theorem cells_new (W:World) (l:List Value) (T:TypeId) (g:Nat) (hg:g=W.heap.size): ∀j u,l[j]?=some u→(W.alloc (.cells l.toArray T)).cell? ((⟨g,0,none⟩:Addr).add j)=some u:=by
 subst hg
 intro j u hu
 have e:(⟨W.heap.size,0,none⟩:Addr).add j=⟨W.heap.size,j,none⟩:=by unfold Addr.add;split<;>simp_all
 rw [e]
 have hh:(W.alloc (.cells l.toArray T)).heap[W.heap.size]?=some (.cells l.toArray T):=heap_alloc_new W _
 unfold World.cell?
 simp only [hh]
 simpa using hu
theorem token_ok' (s x:ByteArray) (k kd v:Nat) (w:World) (hs:s.size≤9223372036854775807) (hk:k<s.size) (h:tokOf ((bs s).drop k)= .ok (kd,x.size,v)) (hx:s.extract k (k+x.size)=x):
  Calls Tryd.prog 55 #[.string s,.int .i64 (k:Int)] w fun e w'=>
   e= .returned (.agg #[.int .i64 kd,.string x,.int .i64 v,.int .i64 k])∧Below w.heap.size w w':=by
 have:=token_ok s k kd x.size v w hs hk h
 rwa [hx] at this
theorem scan_any (s:ByteArray) (w:World) (hs:s.size≤20000):
  Calls Tryd.prog 30 #[.string s] w fun e w'=>ScanEnd s w.heap.size e w'∧Below w.heap.size w w':=by
 obtain ⟨i0,hi,hz0,hz1,hz2⟩:=info_parts info_tok
 go_enter Tryd.func30,Tryd.ntmps30
 go_wp2_with fail
 refine (afterGaps_any s 0 _ (by omega) (by omega)).mono ?_
 rintro e w1 ⟨rfl,hb1⟩
 rw [Nat.zero_add,List.drop_zero]
 have HB1:=Lib.hid hb1;clear hb1
 go_wp2_with fail
 go_loopw [3,4] (fun v i wr=> ∃(ts:List Tok) (p:Nat),i= .int .i64 p∧ScanRel s w ts p v wr) (fun _ i _=>s.size-(intOf i).toNat)
 case atStart=>exact ⟨[],_,rfl,ScanRel.start s w w1 HB1.out⟩
 case round=>
  obtain ⟨ts,p,rfl,HR⟩:=hrel
  obtain ⟨A,cap,rfl⟩:=HR.form
  have hp:=HR.1
  have h5:=HR.2.1
  have hB:=HR.2.2.2.1.size
  by_cases hlt:p<s.size
  ·cases htok:tokOf ((bs s).drop p) with
   |error er=>
    have HE:=Lib.hid htok;clear htok
    go_wp2_with fail
    refine (token_no s p er _ (by omega) hlt HE.out).mono ?_
    rintro e w2 ⟨rfl,hb2⟩
    exact ⟨rfl,HR.err hlt HE.out,HR.2.2.2.1.trans (hb2.mono hB)⟩
   |ok x=>
    obtain ⟨k,len,n⟩:=x
    have HE:=Lib.hid htok;clear htok
    have hlen:=tokOf_len _ _ _ _ HE.out
    rw [List.length_drop,jx7] at hlen
    obtain ⟨x,hxe,hxs⟩: ∃x,s.extract p (p+len)=x∧x.size=len:=⟨_,rfl,extract_size s p len (by omega)⟩
    subst hxs
    have HX:=Lib.hid hxe;clear hxe
    by_cases hc:ts.length=5000
    ·have bc:((ts.length:Int)==5000)=true:=beq_iff_eq.2 (by omega)
     have HC:=Lib.hid hc;clear hc
     go_wp2_with fail
     refine (token_ok' s x p k n _ (by omega) hlt HE.out HX.out).mono ?_
     rintro e w2 ⟨rfl,hb2⟩
     go_wp2_with fail
     exact ⟨rfl,HR.full hlt HE.out HC.out,(HR.2.2.2.1.trans (hb2.mono hB)).alloc (Nat.le_trans hB hb2.size) _⟩
    ·have bc:((ts.length:Int)==5000)=false:=beq_eq_false_iff_ne.2 (by omega)
     go_wp2_with fail
     refine (token_ok' s x p k n _ (by omega) hlt HE.out HX.out).mono ?_
     rintro e w2 ⟨rfl,hb2⟩
     have hown2:=kz5 HR.2.2.1 hb2
     have hbw2:Below w.heap.size w w2:=HR.2.2.2.1.trans (hb2.mono hB)
     have HB2:=Lib.hid hbw2;clear hbw2
     have hB2:w.heap.size≤w2.heap.size:=HB2.out.size
     have HO:=Lib.hid hown2;clear hown2
     clear hb2
     go_wp2_with (at_builtin;refine wpList_append_own_at _ rfl _ _ 33 rfl w.heap.size 40 i0 _ 4 40 Tryd.underlying33 hi hz0 hz1 hz2 rfl (by decide) _ ts.length (cellsAll ts) rfl (kz5 (kz5 HO.out ((Below.refl _ _).alloc (Nat.le_refl _) _)) ((Below.refl _ _).alloc (Nat.le_refl _) _)) ⟨w2.heap.size+1,0,none⟩ 1 1 [.int .i64 k,.string x,.int .i64 n,.int .i64 p] rfl rfl ?c1 ?c2 ?c3 ?c4 ?c5 ?_)
     case c1=>exact cells_new _ [.int .i64 k,.string x,.int .i64 n,.int .i64 p] _ _ (by simp)
     case c2=>intro u hu;simp at hu;rcases hu with rfl|rfl|rfl|rfl<;>rfl
     case c3=>simp only [maxLen];omega
     case c4=>omega
     case c5=>simp only [World.size_alloc];omega
     intro v3 w3 hown3 hg3 hnil3 hat3
     obtain ⟨A3,cap3,rfl⟩:=own_form hown3
     have hne: ∀g,(Value.slice A ts.length cap).ownBlock=some g→w.heap.size≤g∧g<w2.heap.size:=own_lt HO.out
     have hB3:Below w.heap.size w w3:=((HB2.out.alloc hB2 _).alloc (by simp only [World.size_alloc];omega) _).grown hg3 (by simp only [World.size_alloc];omega) (fun k hk=>(hne k hk).1)
     have qt:w3.cell? ⟨w2.heap.size,1,none⟩=some (.string x):=by
      rw [World.cell?_of_block (hg3.block w2.heap.size (by simp only [World.size_alloc];omega) (fun e=>by have:=(hne _ e.symm).2;omega))]
      simp
     have HO3:=Lib.hid hown3;clear hown3
     have HB3:=Lib.hid hB3;clear hB3 hg3 hnil3 hat3 hne
     go_wp2_with fail
     rw [←Int.natCast_add]
     refine (afterGaps_any s (p+x.size) _ (by omega) (by omega)).mono ?_
     rintro e w4 ⟨rfl,hb4⟩
     have HB4:=Lib.hid hb4;clear hb4
     have hgl:=gap_le s (p+x.size) (by omega)
     go_wp2_with fail
     go_roundw
     case rel=>exact ⟨_,_,rfl,HR.step hlt HE.out hc (by rw [HX.out];exact kz5 HO3.out HB4.out) (HB3.out.trans (HB4.out.mono HB3.out.size))⟩
     case measure=>simp [intOf];omega
  ·go_wp2_with fail
   go_ret
   exact ⟨HR.done hlt,HR.2.2.2.1⟩
end Go.Proofs.YtfaflipphkoiiaaDoor.Lx
namespace Go.Proofs.YtfaflipphkoiiaaDoor.Lx
open Go.RowKit
theorem frame18 (a0 a1 a2 v:Value): #[a0,a1,a2]++((Array.replicate 18 undef).setIfInBounds 3 v).setIfInBounds 0 v=
  #[a0,a1,a2,v,undef,undef,v,undef,undef,undef,undef,undef,undef,undef,undef,undef,undef,undef,undef,undef,undef]:=by
 simp [Array.replicate,List.replicate]
theorem catch_idle (a0 a1 a2:Value) (w:World):
  CallsD Tryd.prog 29 #[a0,a1,a2] .returning w fun e u' w'=>e= .returned (.tuple #[])∧u'= .returning∧w'=w:=by
 refine callsD_of_wpS Tryd.func29 rfl fun c₀ cs hu=>?_
 apply wpS_seq
 apply wpS_region
 simp [wpOpsS,go_sem,recoverD,hu,Tryd.ntmps29,Exit.thenS]
 refine wpS_of_wp ?_
 rw [frame18]
 go_wp2
 cases c₀
 simp_all [bodyPostS,results,Tryd.results29]
theorem assert_fail (er k:Int) (W:World):(Instr.typeAssert (.iface 78 (.agg #[.int .i64 er,.int .i64 k])) 20 78 true).run Tryd.prog W= .ok (.tuple #[.agg #[.int .i64 er,.int .i64 k],.bool true]) W:=by kernel_rfl
theorem catch_fail (b:Nat) (er:Int) (k:Nat) (w:World) (v0 v1 v2:Value) (c0:w.cell? ⟨b,0,none⟩=some v0) (c1:w.cell? ⟨b+1,0,none⟩=some v1) (c2:w.cell? ⟨b+1+1,0,none⟩=some v2)
  (z0:w.frozen? ⟨b,0,none⟩=false) (z1:w.frozen? ⟨b+1,0,none⟩=false) (z2:w.frozen? ⟨b+1+1,0,none⟩=false) (hb:b+2<w.heap.size):
  CallsD Tryd.prog 29 #[.pointer (some ⟨b,0,none⟩),.pointer (some ⟨b+1,0,none⟩),.pointer (some ⟨b+1+1,0,none⟩)] (.panicking (fail_ er k)) w fun e u' w'=>
   e= .returned (.tuple #[])∧u'= .panicking [{v:= .iface 78 (.agg #[.int .i64 er,.int .i64 k]),recovered:=true}]∧
   w'.cell? ⟨b,0,none⟩=some (.slice none 0 0)∧w'.cell? ⟨b+1,0,none⟩=some (.int .i64 er)∧w'.cell? ⟨b+1+1,0,none⟩=some (.int .i64 k)∧Below b w w':=by
 unfold fail_
 refine callsD_of_wpS Tryd.func29 rfl fun c₀ cs hu=>?_
 apply wpS_seq
 apply wpS_region
 simp [wpOpsS,go_sem,recoverD,hu,Tryd.ntmps29,Exit.thenS]
 refine wpS_of_wp ?_
 rw [frame18]
 have HU:=Lib.hid hu;clear hu
 have hta:=assert_fail er k
 have hal:=(Below.refl w.heap.size w).alloc (Nat.le_refl _) (.cells #[.int .i64 er,.int .i64 k] 78)
 have c0':=(hal.cell (p:=⟨b,0,none⟩) (by show b<_;omega)).trans c0
 have c1':=(hal.cell (p:=⟨b+1,0,none⟩) (by show b+1<_;omega)).trans c1
 have c2':=(hal.cell (p:=⟨b+1+1,0,none⟩) (by show b+1+1<_;omega)).trans c2
 have z0':=(hal.frozen (p:=⟨b,0,none⟩) (by show b<_;omega)).trans z0
 have z1':=(hal.frozen (p:=⟨b+1,0,none⟩) (by show b+1<_;omega)).trans z1
 have z2':=(hal.frozen (p:=⟨b+1+1,0,none⟩) (by show b+1+1<_;omega)).trans z2
 clear hal
 go_wp2
 go_region
 have hne1:(⟨b,0,none⟩:Addr)≠⟨b+1,0,none⟩:=by intro h;injection h;omega
 have hne2:(⟨b,0,none⟩:Addr)≠⟨b+1+1,0,none⟩:=by intro h;injection h;omega
 have hne3:(⟨b+1,0,none⟩:Addr)≠⟨b+1+1,0,none⟩:=by intro h;injection h;omega
 refine ⟨rfl,_,rfl,.tuple #[],by simp [results,Tryd.results29],rfl,rfl,?_,?_,?_,?_⟩
 ·show World.cell? (World.setCell _ _ _) _=_
  rw [World.cell?_setCell_other _ _ _ _ hne2.symm,World.cell?_setCell_other _ _ _ _ hne1.symm]
  exact jv5 (by rw [c0'];rfl)
 ·show World.cell? (World.setCell _ _ _) _=_
  rw [World.cell?_setCell_other _ _ _ _ hne3.symm]
  exact jv5 (by rw [World.cell?_setCell_other _ _ _ _ hne1,c1'];rfl)
 ·show World.cell? (World.setCell _ _ _) _=_
  exact jv5 (by rw [World.cell?_setCell_other _ _ _ _ hne3,World.cell?_setCell_other _ _ _ _ hne2,c2'];rfl)
 ·have h0:=(Below.refl b w).alloc (by omega) (.cells #[.int .i64 er,.int .i64 k] 78)
  have h1:=h0.setCell (p:=⟨b,0,none⟩) (Nat.le_refl _) (.slice none 0 0)
  have h2:=h1.setCell (p:=⟨b+1,0,none⟩) (by show b≤b+1;omega) (.int .i64 er)
  exact (h2.setCell (p:=⟨b+1+1,0,none⟩) (by show b≤b+1+1;omega) (.int .i64 k)).drew
theorem scan_ok (s:ByteArray) (w:World) (hs:s.size≤20000) (ts:List Tok) (h:lexP (s.size+1) (bs s) (gapLen false (bs s)) 0= .ok ts):
  Calls Tryd.prog 30 #[.string s] w fun e w'=>(∃A cap,e= .returned (.slice A ts.length cap)∧w'.ownsRow w.heap.size 40 4 (.slice A ts.length cap) ts.length (cellsAll ts))∧Below w.heap.size w w':=by
 refine (scan_any s w hs).mono fun e w' ⟨h1,h2⟩=>⟨?_,h2⟩
 unfold ScanEnd at h1
 rw [h] at h1
 obtain ⟨v,he,ho⟩:=h1
 obtain ⟨A,cap,rfl⟩:=own_form ho
 exact ⟨A,cap,he,ho⟩
theorem scan_no (s:ByteArray) (w:World) (hs:s.size≤20000) (er p:Nat) (h:lexP (s.size+1) (bs s) (gapLen false (bs s)) 0= .error (er,p)):
  Calls Tryd.prog 30 #[.string s] w fun e w'=>e= .panicked (fail_ er p)∧Below w.heap.size w w':=by
 refine (scan_any s w hs).mono fun e w' ⟨h1,h2⟩=>⟨?_,h2⟩
 unfold ScanEnd at h1
 rw [h] at h1
 exact h1
theorem kept111 {w w1:World} {c0 c1 c2:Value} {t0 t1 t2:TypeId} {B:Nat} (hb:Below B (((w.alloc (.cells #[c0] t0)).alloc (.cells #[c1] t1)).alloc (.cells #[c2] t2)) w1) (hB:w.heap.size+1+1<B):
  w1.cell? ⟨w.heap.size,0,none⟩=some c0∧w1.cell? ⟨w.heap.size+1,0,none⟩=some c1∧w1.cell? ⟨w.heap.size+1+1,0,none⟩=some c2∧
  w1.frozen? ⟨w.heap.size,0,none⟩=false∧w1.frozen? ⟨w.heap.size+1,0,none⟩=false∧w1.frozen? ⟨w.heap.size+1+1,0,none⟩=false:=
 ⟨(hb.cell (p:=⟨w.heap.size,0,none⟩) (by show w.heap.size<B;omega)).trans (by simp [go_sem]),(hb.cell (p:=⟨w.heap.size+1,0,none⟩) (by show w.heap.size+1<B;omega)).trans (by simp [go_sem]),(hb.cell (p:=⟨w.heap.size+1+1,0,none⟩) hB).trans (by simp [go_sem]),
  (hb.frozen (p:=⟨w.heap.size,0,none⟩) (by show w.heap.size<B;omega)).trans (by simp [go_sem]),(hb.frozen (p:=⟨w.heap.size+1,0,none⟩) (by show w.heap.size+1<B;omega)).trans (by simp [go_sem]),(hb.frozen (p:=⟨w.heap.size+1+1,0,none⟩) hB).trans (by simp [go_sem])⟩
def LexEnd (s:ByteArray) (B:Nat) (e:Ending) (w':World):Prop:=
 match lex (bs s) with
 | .ok ts=> ∃A cap,e= .returned (.tuple #[.slice A ts.length cap,.int .i64 0,.int .i64 0])∧w'.ownsRow B 40 4 (.slice A ts.length cap) ts.length (cellsAll ts)
 | .error (er,p)=>e= .returned (.tuple #[.slice none 0 0,.int .i64 er,.int .i64 p])
theorem LexEnd.of_ok {s:ByteArray} {B:Nat} {e:Ending} {w':World} {ts:List Tok} {A:Option Addr} {cap:Nat} (h:lex (bs s)= .ok ts) (he:e= .returned (.tuple #[.slice A ts.length cap,.int .i64 0,.int .i64 0]))
  (ho:w'.ownsRow B 40 4 (.slice A ts.length cap) ts.length (cellsAll ts)):LexEnd s B e w':=by
 unfold LexEnd;rw [h];exact ⟨A,cap,he,ho⟩
theorem LexEnd.of_err {s:ByteArray} {B:Nat} {e:Ending} {w':World} {er:Nat} {p:Int} (h:lex (bs s)= .error (er,p)) (he:e= .returned (.tuple #[.slice none 0 0,.int .i64 er,.int .i64 p])):LexEnd s B e w':=by
 unfold LexEnd;rw [h];exact he
theorem lex_of_ok {s:ByteArray} {ts:List Tok} (hs: ¬20000<s.size) (h:lexP (s.size+1) (bs s) (gapLen false (bs s)) 0= .ok ts):lex (bs s)= .ok ts:=by
 unfold lex;rw [if_neg (by rw [jx7];exact hs),jx7,h]
theorem lex_of_err {s:ByteArray} {er p:Nat} (hs: ¬20000<s.size) (h:lexP (s.size+1) (bs s) (gapLen false (bs s)) 0= .error (er,p)):lex (bs s)= .error (er,(p:Int)):=by
 unfold lex;rw [if_neg (by rw [jx7];exact hs),jx7,h]
theorem own_base {w:World} {base base':Nat} {e:TypeId} {size:Nat} {v:Value} {n:Nat} {xs:List Value} (h:w.ownsRow base e size v n xs) (hb:base'≤base):w.ownsRow base' e size v n xs:=by
 refine ⟨h.1,?_⟩
 rcases h.2 with h2|⟨g,cap,cur,hv,hg,r⟩
 ·exact .inl h2
 ·exact .inr ⟨g,cap,cur,hv,by omega,r⟩
theorem own_set_far {w:World} {base:Nat} {e:TypeId} {size:Nat} {v:Value} {n:Nat} {xs:List Value} (h:w.ownsRow base e size v n xs) {a:Addr} (ha:a.block<base) (u:Value):(w.setCell a u).ownsRow base e size v n xs:=ownsRow_setCell_below h ha u
theorem lex_any (s:ByteArray) (w:World) (hs:s.size≤9223372036854775807):
  Calls Tryd.prog 14 #[.string s] w fun e w'=>LexEnd s w.heap.size e w'∧Below w.heap.size w w':=by
 have hmf:=mkFunc
 by_cases h2:20000<s.size
 ·have HL:Hid (lex (bs s)= .error (3,-1)):=by unfold lex;rw [if_pos (by rw [jx7];exact h2)];rfl
  go_enter_defers Tryd.func14,Tryd.ntmps14
  go_wp2
  refine ⟨.tuple #[.slice none 0 0,.int .i64 3,.int .i64 (-1)],by simp [results,Tryd.results14,go_sem],LexEnd.of_err HL.out rfl,by go_grown⟩
 ·cases hl:lexP (s.size+1) (bs s) (gapLen false (bs s)) 0 with
  |ok ts=>
   have HL:=Lib.hid hl;clear hl
   go_enter_defers Tryd.func14,Tryd.ntmps14
   go_wp2_with fail
   refine (scan_ok s _ (by omega) ts HL.out).mono ?_
   rintro e w1 ⟨⟨A,cap,rfl,ho⟩,hb⟩
   obtain ⟨q0,q1,q2,f0,f1,f2⟩:=kept111 hb (by simp)
   simp only [World.size_alloc] at ho hb
   have HO:=Lib.hid ho;clear ho
   have HB:Hid (Below w.heap.size w w1):=((((Below.refl _ w).alloc (Nat.le_refl _) _).alloc (by simp only [World.size_alloc];omega) _).alloc (by simp only [World.size_alloc];omega) _).trans (hb.mono (by omega))
   clear hb
   go_wp2_with fail
   refine leaves_cons (f:=29) (args:= #[.pointer (some ⟨w.heap.size,0,none⟩),.pointer (some ⟨w.heap.size+1,0,none⟩),.pointer (some ⟨w.heap.size+1+1,0,none⟩)]) (by simp) (by simp [go_sem]) ?_
   refine (catch_idle _ _ _ _).mono ?_
   rintro e u' w2 ⟨rfl,rfl,rfl⟩
   refine ⟨.tuple #[.slice A ts.length cap,.int .i64 0,.int .i64 0],by simp [results,Tryd.results14,go_sem,jv5,q0,q1,q2],LexEnd.of_ok (lex_of_ok h2 HL.out) rfl ?_,?_⟩
   ·have h3:=own_set_far (own_set_far (own_set_far HO.out (a:=⟨w.heap.size,0,none⟩) (by show w.heap.size<_;omega) (.slice A ts.length cap)) (a:=⟨w.heap.size+1,0,none⟩) (by show w.heap.size+1<_;omega) (.int .i64 0)) (a:=⟨w.heap.size+1+1,0,none⟩) (by show w.heap.size+1+1<_;omega) (.int .i64 0)
    exact own_base h3 (by omega)
   ·have h1:=HB.out.setCell (p:=⟨w.heap.size,0,none⟩) (Nat.le_refl _) (.slice A ts.length cap)
    have h2:=h1.setCell (p:=⟨w.heap.size+1,0,none⟩) (by show w.heap.size≤w.heap.size+1;omega) (.int .i64 0)
    exact h2.setCell (p:=⟨w.heap.size+1+1,0,none⟩) (by show w.heap.size≤w.heap.size+1+1;omega) (.int .i64 0)
  |error x=>
   obtain ⟨er,p⟩:=x
   have HL:=Lib.hid hl;clear hl
   go_enter_defers Tryd.func14,Tryd.ntmps14
   go_wp2_with fail
   refine (scan_no s _ (by omega) er p HL.out).mono ?_
   rintro e w1 ⟨rfl,hb⟩
   obtain ⟨q0,q1,q2,f0,f1,f2⟩:=kept111 hb (by simp)
   have hz:=hb.size
   simp only [World.size_alloc] at hb hz
   have HB:Hid (Below w.heap.size w w1):=((((Below.refl _ w).alloc (Nat.le_refl _) _).alloc (by simp only [World.size_alloc];omega) _).alloc (by simp only [World.size_alloc];omega) _).trans (hb.mono (by omega))
   clear hb
   refine leaves_cons (f:=29) (args:= #[.pointer (some ⟨w.heap.size,0,none⟩),.pointer (some ⟨w.heap.size+1,0,none⟩),.pointer (some ⟨w.heap.size+1+1,0,none⟩)]) (by simp) (by simp [go_sem]) ?_
   refine (catch_fail w.heap.size er p w1 _ _ _ q0 q1 q2 f0 f1 f2 (by omega)).mono ?_
   rintro e u' w2 ⟨rfl,rfl,g0,g1,g2,hb2⟩
   refine ⟨.tuple #[.slice none 0 0,.int .i64 er,.int .i64 p],by simp [results,Tryd.results14,go_sem,g0,g1,g2],LexEnd.of_err (lex_of_err h2 HL.out) rfl,HB.out.trans hb2⟩
theorem lex_ok (s:ByteArray) (w:World) (hs:s.size≤9223372036854775807) (ts:List Tok) (h:lex (bs s)= .ok ts):
  Calls Tryd.prog 14 #[.string s] w fun e w'=>(∃A cap,e= .returned (.tuple #[.slice A ts.length cap,.int .i64 0,.int .i64 0])∧w'.ownsRow w.heap.size 40 4 (.slice A ts.length cap) ts.length (cellsAll ts))∧Below w.heap.size w w':=by
 refine (lex_any s w hs).mono fun e w' ⟨h1,h2⟩=>⟨?_,h2⟩
 unfold LexEnd at h1
 rw [h] at h1
 exact h1
theorem lex_no (s:ByteArray) (w:World) (hs:s.size≤9223372036854775807) (er:Nat) (p:Int) (h:lex (bs s)= .error (er,p)):
  Calls Tryd.prog 14 #[.string s] w fun e w'=>e= .returned (.tuple #[.slice none 0 0,.int .i64 er,.int .i64 p])∧Below w.heap.size w w':=by
 refine (lex_any s w hs).mono fun e w' ⟨h1,h2⟩=>⟨?_,h2⟩
 unfold LexEnd at h1
 rw [h] at h1
 exact h1
end Go.Proofs.YtfaflipphkoiiaaDoor.Lx
namespace Go.Proofs.YtfaflipphkoiiaaDoor.Lx
def skip (l:List UInt8):List UInt8:=l.drop (gapLen false l)
theorem tok_err {l:List UInt8} {e:Nat} (h:tokOf l= .error e):e=3∨e=4∨e=5:=by
 cases l with
 |nil=>simp [tokOf] at h;omega
 |cons c l=>
  simp only [tokOf] at h
  repeat' split at h
  all_goals first|(cases h;done)|(injection h with h;omega)
end Go.Proofs.YtfaflipphkoiiaaDoor.Lx
namespace Go.Proofs.YtfaflipphkoiiaaDoor.Lx
def ends (c:UInt8):Prop:=isWord c=false∧c.toNat≠46
end Go.Proofs.YtfaflipphkoiiaaDoor.Lx
