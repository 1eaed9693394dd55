/-
  What a source text's tokens are, in plain Lean: names, numbers, symbols and gaps of a list of bytes, and the tokens of a text. No condition.
-/
import Derived.Below
namespace Go.Proofs.YtfaflipphkoiiaaDoor.Lx
def isLetter (c:UInt8):Bool:=(97≤c.toNat&&c.toNat≤122)||(65≤c.toNat&&c.toNat≤90)
def isDigit (c:UInt8):Bool:=48≤c.toNat&&c.toNat≤57
def isWord (c:UInt8):Bool:=isLetter c||isDigit c||c.toNat==95
def syms:List UInt8:= [59,58,44,61,47,45,40,41,123,125]
def isSym (c:UInt8):Bool:=syms.contains c
def gapLen:Bool→List UInt8→Nat
 |_,[]=>0
 |com,c::l=>if c.toNat=10 then gapLen false l+1 else if c.toNat=35 then gapLen true l+1
   else if com then gapLen true l+1 else if c.toNat=32∨c.toNat=9 then gapLen false l+1 else 0
def nameByte:List UInt8→Bool
 | []=>false
 |c::l=>isWord c||(c.toNat==46&&match l with| []=>false|d::_=>isWord d)
def nameLen:List UInt8→Nat
 | []=>0
 |c::l=>if nameByte (c::l) then nameLen l+1 else 0
def numLen:List UInt8→Nat
 | []=>0
 |c::l=>if isDigit c then numLen l+1 else 0
def comLen:List UInt8→Nat
 | []=>0
 |c::l=>if c.toNat=10 then 0 else comLen l+1
def digStep (n:Nat) (c:UInt8):Nat:=10*n+(c.toNat-48)
def valFrom (n:Nat) (l:List UInt8):Nat:=l.foldl digStep n
theorem valFrom_nil (n:Nat):valFrom n []=n:=rfl
theorem valFrom_cons (n:Nat) (c:UInt8) (l:List UInt8):valFrom n (c::l)=valFrom (digStep n c) l:=by unfold valFrom;rw [List.foldl_cons]
def wordAt:List UInt8→Bool
 | []=>false
 |c::_=>isWord c
structure Tok where
 kind:Nat
 text:List UInt8
 n:Nat
 pos:Nat
def tokOf:List UInt8→Except Nat (Nat×Nat×Nat)
 | []=> .error 4
 |c::l=>
  if isLetter c then (if 24<nameLen (c::l) then .error 3 else .ok (1,nameLen (c::l),0))
  else if isDigit c then
   (if 12<numLen (c::l)∨wordAt ((c::l).drop (numLen (c::l)))=true then .error 5 else .ok (2,numLen (c::l),valFrom 0 ((c::l).take (numLen (c::l)))))
  else if isSym c then .ok (3,1,0) else .error 4
def comb (ts:List Tok):Except (Nat×Nat) (List Tok)→Except (Nat×Nat) (List Tok)
 | .error e=> .error e
 | .ok us=> .ok (ts++us)
def lexP:Nat→List UInt8→Nat→Nat→Except (Nat×Nat) (List Tok)
 |0,_,_,_=> .ok []
 |fuel+1,s,p,cnt=>
  if s.length≤p then .ok []
  else match tokOf (s.drop p) with
   | .error e=> .error (e,p)
   | .ok (k,len,v)=>
    if cnt=5000 then .error (3,p)
    else comb [⟨k,(s.drop p).take len,v,p⟩] (lexP fuel s (p+len+gapLen false (s.drop (p+len))) (cnt+1))
def lex (s:List UInt8):Except (Nat×Int) (List Tok):=
 if 20000<s.length then .error (3,-1)
 else match lexP (s.length+1) s (gapLen false s) 0 with
  | .error (e,p)=> .error (e,p)
  | .ok ts=> .ok ts
theorem kq5 (l:List UInt8):nameLen l≤l.length:=by
 induction l with
 |nil=>simp [nameLen]
 |cons c l ih=>unfold nameLen;split<;>simp<;>omega
theorem kq8 (l:List UInt8):numLen l≤l.length:=by
 induction l with
 |nil=>simp [numLen]
 |cons c l ih=>unfold numLen;split<;>simp<;>omega
theorem comLen_le (l:List UInt8):comLen l≤l.length:=by
 induction l with
 |nil=>simp [comLen]
 |cons c l ih=>unfold comLen;split<;>simp<;>omega
theorem gapLen_le (b:Bool) (l:List UInt8):gapLen b l≤l.length:=by
 induction l generalizing b with
 |nil=>simp [gapLen]
 |cons c l ih=>
  have h1:=ih true;have h2:=ih false
  unfold gapLen
  repeat' split
  all_goals simp<;>omega
theorem nameLen_yes (l:List UInt8): ∀j,j<nameLen l→nameByte (l.drop j)=true:=by
 induction l with
 |nil=>intro j hj;simp [nameLen] at hj
 |cons c l ih=>
  intro j hj
  unfold nameLen at hj
  split at hj
  ·cases j with
   |zero=>simpa
   |succ j=>simpa using ih j (by omega)
  ·omega
theorem nameLen_no (l:List UInt8):nameLen l<l.length→nameByte (l.drop (nameLen l))=false:=by
 induction l with
 |nil=>simp
 |cons c l ih=>
  intro h
  unfold nameLen at h ⊢
  split
  ·rename_i hb;rw [if_pos hb] at h;simpa using ih (by simpa using h)
  ·rename_i hb;simpa using hb
theorem numLen_yes (l:List UInt8): ∀j (h:j<l.length),j<numLen l→isDigit l[j]=true:=by
 induction l with
 |nil=>intro j hj;simp at hj
 |cons c l ih=>
  intro j h hj
  unfold numLen at hj
  split at hj
  ·cases j with
   |zero=>simpa
   |succ j=>simpa using ih j (by simpa using h) (by omega)
  ·omega
theorem numLen_no (l:List UInt8): ∀h:numLen l<l.length,isDigit (l[numLen l]'h)=false:=by
 induction l with
 |nil=>simp
 |cons c l ih=>
  by_cases hb:isDigit c=true
  ·have e:numLen (c::l)=numLen l+1:=by simp [numLen,hb]
   intro h
   have h':numLen l<l.length:=by rw [e] at h;simpa using h
   have:=ih h'
   simp only [e,List.getElem_cons_succ];exact this
  ·have e:numLen (c::l)=0:=by simp [numLen,hb]
   intro h
   simp only [e,List.getElem_cons_zero];simpa using hb
theorem comLen_yes (l:List UInt8): ∀j (h:j<l.length),j<comLen l→l[j].toNat≠10:=by
 induction l with
 |nil=>intro j hj;simp at hj
 |cons c l ih=>
  intro j h hj
  unfold comLen at hj
  split at hj
  ·omega
  ·cases j with
   |zero=>simpa
   |succ j=>simpa using ih j (by simpa using h) (by omega)
theorem comLen_no (l:List UInt8): ∀h:comLen l<l.length,(l[comLen l]'h).toNat=10:=by
 induction l with
 |nil=>simp
 |cons c l ih=>
  by_cases hb:c.toNat=10
  ·have e:comLen (c::l)=0:=by simp [comLen,hb]
   intro h
   simp only [e,List.getElem_cons_zero];exact hb
  ·have e:comLen (c::l)=comLen l+1:=by simp [comLen,hb]
   intro h
   have h':comLen l<l.length:=by rw [e] at h;simpa using h
   have:=ih h'
   simp only [e,List.getElem_cons_succ];exact this
end Go.Proofs.YtfaflipphkoiiaaDoor.Lx
namespace Go.Proofs.YtfaflipphkoiiaaDoor.Lx
theorem valFrom_snoc (l:List UInt8) (c:UInt8) (n:Nat):valFrom n (l++ [c])=10*valFrom n l+(c.toNat-48):=by
 unfold valFrom;rw [List.foldl_append,List.foldl_cons,List.foldl_nil,digStep]
theorem valFrom_lt (l:List UInt8) (h: ∀c∈l,isDigit c=true):valFrom 0 l<10^l.length:=by
 have aux: ∀(l:List UInt8) (n:Nat),(∀c∈l,isDigit c=true)→valFrom n l<(n+1)*10^l.length:=by
  intro l
  induction l with
  |nil=>intro n _;rw [valFrom_nil];simp
  |cons c l ih=>
   intro n hd
   have hc:isDigit c=true:=hd c (by simp)
   have h1:=ih (digStep n c) (fun d hm=>hd d (by simp [hm]))
   rw [valFrom_cons,List.length_cons]
   have h2:digStep n c+1≤10*(n+1):=by
    unfold digStep;unfold isDigit at hc;simp at hc;omega
   exact calc valFrom (digStep n c) l<(digStep n c+1)*10^l.length:=h1
    _≤(10*(n+1))*10^l.length:=Nat.mul_le_mul_right _ h2
    _=(n+1)*10^(l.length+1):=by rw [Nat.pow_succ,Nat.mul_comm 10,Nat.mul_assoc,Nat.mul_comm 10 (10^l.length)]
 have:=aux l 0 h
 simpa using this
theorem valFrom_small (l:List UInt8) (h: ∀c∈l,isDigit c=true) (hl:l.length≤12):valFrom 0 l<1000000000000:=
 Nat.lt_of_lt_of_le (valFrom_lt l h) (Nat.pow_le_pow_right (by omega) hl)
theorem numLen_digits (l:List UInt8): ∀c∈l.take (numLen l),isDigit c=true:=by
 induction l with
 |nil=>simp
 |cons c l ih=>
  unfold numLen
  split
  ·rename_i hc;intro d hd;simp only [List.take_succ_cons,List.mem_cons] at hd
   rcases hd with rfl|hd
   ·exact hc
   ·exact ih d hd
  ·simp
end Go.Proofs.YtfaflipphkoiiaaDoor.Lx
namespace Go.Proofs.YtfaflipphkoiiaaDoor.Lx
theorem gapLen_com (l:List UInt8):gapLen true l=comLen l+gapLen false (l.drop (comLen l)):=by
 induction l with
 |nil=>simp [gapLen,comLen]
 |cons c l ih=>
  by_cases h:c.toNat=10
  ·simp [gapLen,comLen,h]
  ·simp [gapLen,comLen,h,ih];omega
theorem gapLen_nil (b:Bool):gapLen b []=0:=by simp [gapLen]
theorem gapLen_blank (c:UInt8) (l:List UInt8) (h:c.toNat=32∨c.toNat=9∨c.toNat=10):gapLen false (c::l)=gapLen false l+1:=by
 rcases h with h|h|h<;>simp [gapLen,h]
theorem gapLen_hash (c:UInt8) (l:List UInt8) (h:c.toNat=35):gapLen false (c::l)=comLen (c::l)+gapLen false ((c::l).drop (comLen (c::l))):=by
 have e:comLen (c::l)=comLen l+1:=by simp [comLen,h]
 rw [e];simp [gapLen,h,gapLen_com];omega
theorem gapLen_other (c:UInt8) (l:List UInt8) (h1:c.toNat≠32) (h2:c.toNat≠9) (h3:c.toNat≠10) (h4:c.toNat≠35):gapLen false (c::l)=0:=by
 simp [gapLen,h1,h2,h3,h4]
end Go.Proofs.YtfaflipphkoiiaaDoor.Lx
namespace Go.Proofs.YtfaflipphkoiiaaDoor.Lx
theorem comb_comb (ts:List Tok) (t:Tok) (r:Except (Nat×Nat) (List Tok)):comb ts (comb [t] r)=comb (ts++ [t]) r:=by
 cases r<;>simp [comb]
theorem comb_nil (r:Except (Nat×Nat) (List Tok)):comb [] r=r:=by cases r<;>simp [comb]
theorem lexP_end (f:Nat) (s:List UInt8) (p c:Nat) (h:s.length≤p):lexP (f+1) s p c= .ok []:=by simp [lexP,h]
theorem lexP_err (f:Nat) (s:List UInt8) (p c e:Nat) (h:p<s.length) (ht:tokOf (s.drop p)= .error e):lexP (f+1) s p c= .error (e,p):=by
 simp [lexP,ht,show ¬s.length≤p by omega]
theorem lexP_full (f:Nat) (s:List UInt8) (p:Nat) (x:Nat×Nat×Nat) (h:p<s.length) (ht:tokOf (s.drop p)= .ok x):lexP (f+1) s p 5000= .error (3,p):=by
 simp [lexP,ht,show ¬s.length≤p by omega]
theorem lexP_step (f:Nat) (s:List UInt8) (p c k len v:Nat) (h:p<s.length) (ht:tokOf (s.drop p)= .ok (k,len,v)) (hc:c≠5000):
  lexP (f+1) s p c=comb [⟨k,(s.drop p).take len,v,p⟩] (lexP f s (p+len+gapLen false (s.drop (p+len))) (c+1)):=by
 simp [lexP,ht,hc,show ¬s.length≤p by omega]
theorem letter_word (c:UInt8) (h:isLetter c=true):isWord c=true:=by simp [isWord,h]
theorem tokOf_len (l:List UInt8) (k len v:Nat) (h:tokOf l= .ok (k,len,v)):1≤len∧len≤l.length:=by
 cases l with
 |nil=>simp [tokOf] at h
 |cons c l=>
  have h1:=kq5 (c::l)
  have h2:=kq8 (c::l)
  simp only [tokOf] at h
  by_cases hl:isLetter c=true
  ·have h3:1≤nameLen (c::l):=by simp [nameLen,nameByte,letter_word c hl]
   rw [if_pos hl] at h
   split at h
   ·cases h
   ·injection h with h
    simp only [Prod.mk.injEq] at h
    omega
  ·rw [if_neg hl] at h
   by_cases hd:isDigit c=true
   ·have h3:1≤numLen (c::l):=by simp [numLen,hd]
    rw [if_pos hd] at h
    split at h
    ·cases h
    ·injection h with h
     simp only [Prod.mk.injEq] at h
     omega
   ·rw [if_neg hd] at h
    split at h
    ·injection h with h
     simp only [Prod.mk.injEq] at h
     simp only [List.length_cons]
     omega
    ·cases h
end Go.Proofs.YtfaflipphkoiiaaDoor.Lx
