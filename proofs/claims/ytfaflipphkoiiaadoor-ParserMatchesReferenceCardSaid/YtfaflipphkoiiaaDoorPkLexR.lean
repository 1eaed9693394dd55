/-
  What the small functions of package estoppelref06 return: letters, digits, gaps, names, numbers, symbols. What the functions number, symbol and token of package estoppelref06 return. What the functions token and Lex of package estoppelref06 return. What the function Lex of package estoppelref06 returns: the same as Lex of package lexer.
-/
import Derived.Test.YtfaflipphkoiiaaDoorPkLex
import Derived.Outline
import Derived.Test.YtfaflipphkoiiaaDoorPkLexB
set_option maxHeartbeats 64000000
set_option maxRecDepth 100000
set_option linter.unusedVariables false
namespace Go.Proofs.YtfaflipphkoiiaaDoor.Lx
open Go.RowKit
theorem jv3 (c:UInt8) (w:World):
  Calls Tryd.prog 73 #[.int .u8 (c.toNat:Int)] w fun e w'=>e= .returned (.bool (Lx.isDigit c))∧w=w':=by
 have hc:c.toNat<256:=c.toNat_lt
 go_enter Tryd.func73,Tryd.ntmps73
 go_wp2
 all_goals
  go_ret
  exact ⟨ret_bool (by unfold Lx.isDigit;rw [Bool.eq_iff_iff];simp;omega),rfl⟩
theorem jz8 (c:UInt8) (w:World):
  Calls Tryd.prog 71 #[.int .u8 (c.toNat:Int)] w fun e w'=>e= .returned (.bool (Lx.isLetter c))∧w=w':=by
 have hc:c.toNat<256:=c.toNat_lt
 go_enter Tryd.func71,Tryd.ntmps71
 go_wp2
 all_goals
  go_ret
  exact ⟨ret_bool (by unfold Lx.isLetter;rw [Bool.eq_iff_iff];simp;omega),rfl⟩
theorem kx1 (c:UInt8) (w:World):
  Calls Tryd.prog 97 #[.int .u8 (c.toNat:Int)] w fun e w'=>e= .returned (.bool (Lx.isWord c))∧w=w':=by
 have hc:c.toNat<256:=c.toNat_lt
 go_enter Tryd.func97,Tryd.ntmps97
 go_wp2_with (first|(go_at_call 71;refine (jz8 _ _).mono ?_;rintro e w' ⟨rfl,rfl⟩)|(go_at_call 73;refine (jv3 _ _).mono ?_;rintro e w' ⟨rfl,rfl⟩))
 all_goals
  go_ret
  exact ⟨ret_bool (by unfold Lx.isWord;simp [*];try (rw [Bool.eq_iff_iff];simp;omega)),rfl⟩
theorem gapLen_in (c:UInt8) (l:List UInt8) (h1:c.toNat≠10):gapLen true (c::l)=gapLen true l+1:=by
 by_cases h:c.toNat=35<;>simp [gapLen,h1,h]
theorem gapLen_lf (b:Bool) (c:UInt8) (l:List UInt8) (h1:c.toNat=10):gapLen b (c::l)=gapLen false l+1:=by simp [gapLen,h1]
theorem gapLen_sharp (b:Bool) (c:UInt8) (l:List UInt8) (h1:c.toNat=35):gapLen b (c::l)=gapLen true l+1:=by simp [gapLen,h1]
theorem refGap_any (s:ByteArray) (k:Nat) (w:World) (hs:s.size≤9223372036854775807) (hk:k≤s.size):
  Calls Tryd.prog 40 #[.string s,.int .i64 (k:Int)] w fun e w'=>e= .returned (.int .i64 (gapLen false ((bs s).drop k):Nat))∧w=w':=by
 obtain ⟨R,hR⟩: ∃R,gapLen false ((bs s).drop k)=R:=⟨_,rfl⟩
 rw [hR]
 have HR:=Lib.hid hR;clear hR
 go_enter Tryd.func40,Tryd.ntmps40
 go_wp2_with fail
 go_loop [5,6,7] (fun n b c=> ∃(j:Nat) (com:Bool),k+j≤s.size∧Hid (j+gapLen com ((bs s).drop (k+j))=R)∧n= .int .i64 j∧b= .bool com) (fun n _ _=>s.size-(intOf n).toNat)
 case atStart=>exact ⟨0,false,by omega,by have:=HR.out;show _=_;simpa using this,rfl,rfl⟩
 case round=>
  obtain ⟨j,com,hj,HJ,rfl,rfl⟩:=hrel
  by_cases hlt:k+j<s.size
  ·have hd:(bs s).drop (k+j)=s[k+j]::(bs s).drop (k+j+1):=jk1 s (k+j) hlt
   have HD:=Lib.hid hd;clear hd
   by_cases h10:s[k+j].toNat=10
   ·have b1:((s[k+j].toNat:Int)==10)=true:=beq_iff_eq.2 (by omega)
    have HN:Hid (j+1+gapLen false ((bs s).drop (k+(j+1)))=R):=by
     have:=HJ.out;rw [HD.out,gapLen_lf _ _ _ h10] at this;show _=_;rw [←Nat.add_assoc k];omega
    clear h10
    go_wp2_with fail
    go_round
    case rel=>exact ⟨j+1,false,by omega,HN,by go_num,rfl⟩
    case measure=>simp [intOf];omega
   ·have b1:((s[k+j].toNat:Int)==10)=false:=beq_eq_false_iff_ne.2 (by omega)
    by_cases h35:s[k+j].toNat=35
    ·have b2:((s[k+j].toNat:Int)==35)=true:=beq_iff_eq.2 (by omega)
     have HN:Hid (j+1+gapLen true ((bs s).drop (k+(j+1)))=R):=by
      have:=HJ.out;rw [HD.out,gapLen_sharp _ _ _ h35] at this;show _=_;rw [←Nat.add_assoc k];omega
     clear h10 h35
     go_wp2_with fail
     go_round
     case rel=>exact ⟨j+1,true,by omega,HN,by go_num,rfl⟩
     case measure=>simp [intOf];omega
    ·have b2:((s[k+j].toNat:Int)==35)=false:=beq_eq_false_iff_ne.2 (by omega)
     cases com with
     |true=>
      have HN:Hid (j+1+gapLen true ((bs s).drop (k+(j+1)))=R):=by
       have:=HJ.out;rw [HD.out,gapLen_in _ _ h10] at this;show _=_;rw [←Nat.add_assoc k];omega
      clear h10 h35
      go_wp2_with fail
      go_round
      case rel=>exact ⟨j+1,true,by omega,HN,by go_num,rfl⟩
      case measure=>simp [intOf];omega
     |false=>
      by_cases h32:s[k+j].toNat=32
      ·have b3:((s[k+j].toNat:Int) !=32)=false:=by rw [bne_eq_false_iff_eq];omega
       have HN:Hid (j+1+gapLen false ((bs s).drop (k+(j+1)))=R):=by
        have:=HJ.out;rw [HD.out,gapLen_blank _ _ (.inl h32)] at this;show _=_;rw [←Nat.add_assoc k];omega
       clear h10 h35 h32
       go_wp2_with fail
       go_round
       case rel=>exact ⟨j+1,false,by omega,HN,by go_num,rfl⟩
       case measure=>simp [intOf];omega
      ·have b3:((s[k+j].toNat:Int) !=32)=true:=by rw [bne_iff_ne];omega
       by_cases h9:s[k+j].toNat=9
       ·have b4:((s[k+j].toNat:Int) !=9)=false:=by rw [bne_eq_false_iff_eq];omega
        have HN:Hid (j+1+gapLen false ((bs s).drop (k+(j+1)))=R):=by
         have:=HJ.out;rw [HD.out,gapLen_blank _ _ (.inr (.inl h9))] at this;show _=_;rw [←Nat.add_assoc k];omega
        clear h10 h35 h32 h9
        go_wp2_with fail
        go_round
        case rel=>exact ⟨j+1,false,by omega,HN,by go_num,rfl⟩
        case measure=>simp [intOf];omega
       ·have b4:((s[k+j].toNat:Int) !=9)=true:=by rw [bne_iff_ne];omega
        have HN:Hid (j=R):=by
         have:=HJ.out;rw [HD.out,gapLen_other _ _ h32 h9 h10 h35] at this;exact this
        clear h10 h35 h32 h9
        go_wp2_with fail
        go_ret
        exact ⟨ret_int (congrArg (fun n:Nat=>(n:Int)) HN.out),rfl⟩
  ·have HN:Hid (j=R):=by
    have:=HJ.out;unfold bs at this;rw [kz4 s (k+j) (by omega),gapLen_nil] at this;exact this
   go_wp2_with fail
   go_ret
   exact ⟨ret_int (congrArg (fun n:Nat=>(n:Int)) HN.out),rfl⟩
theorem nameLen_cons (c:UInt8) (l:List UInt8) (h:nameByte (c::l)=true):nameLen (c::l)=nameLen l+1:=by
 rw [nameLen,if_pos h]
theorem nameLen_stop (c:UInt8) (l:List UInt8) (h:nameByte (c::l)=false):nameLen (c::l)=0:=by
 rw [nameLen,if_neg (by rw [h];simp)]
theorem nameByte_word (c:UInt8) (l:List UInt8) (h:isWord c=true):nameByte (c::l)=true:=by simp [nameByte,h]
theorem nameByte_dot (c d:UInt8) (l:List UInt8) (h:isWord c=false) (h1:c.toNat=46):nameByte (c::d::l)=isWord d:=by simp [nameByte,h,h1]
theorem nameByte_dot_end (c:UInt8) (h:isWord c=false):nameByte [c]=false:=by simp [nameByte,h]
theorem nameByte_not (c:UInt8) (l:List UInt8) (h:isWord c=false) (h1:c.toNat≠46):nameByte (c::l)=false:=by simp [nameByte,h,h1]
theorem refName_any (s:ByteArray) (k:Nat) (w:World) (hs:s.size≤9223372036854775807) (hk:k≤s.size):
  Calls Tryd.prog 72 #[.string s,.int .i64 (k:Int)] w fun e w'=>e= .returned (.int .i64 (nameLen ((bs s).drop k):Nat))∧w=w':=by
 obtain ⟨R,hR⟩: ∃R,nameLen ((bs s).drop k)=R:=⟨_,rfl⟩
 rw [hR]
 have HR:=Lib.hid hR;clear hR
 go_enter Tryd.func72,Tryd.ntmps72
 go_wp2_with fail
 go_loop [5,6,7] (fun n b c=> ∃(j:Nat),k+j≤s.size∧Hid (j+nameLen ((bs s).drop (k+j))=R)∧n= .int .i64 j) (fun n _ _=>s.size-(intOf n).toNat)
 case atStart=>exact ⟨0,by omega,by have:=HR.out;show _=_;simpa using this,rfl⟩
 case round=>
  obtain ⟨j,hj,HJ,rfl⟩:=hrel
  by_cases hlt:k+j<s.size
  ·have hd:(bs s).drop (k+j)=s[k+j]::(bs s).drop (k+j+1):=jk1 s (k+j) hlt
   have HD:=Lib.hid hd;clear hd
   have hcase:(∃b:Bool,isWord s[k+j]=b∧((s[k+j].toNat:Int)==46)=false∧Hid (nameByte (s[k+j]::(bs s).drop (k+j+1))=b))∨
     (isWord s[k+j]=false∧((s[k+j].toNat:Int)==46)=true∧ ¬k+j+1<s.size∧Hid (nameByte (s[k+j]::(bs s).drop (k+j+1))=false))∨
     (isWord s[k+j]=false∧((s[k+j].toNat:Int)==46)=true∧ ∃h:k+j+1<s.size,∃b:Bool,isWord s[k+j+1]=b∧Hid (nameByte (s[k+j]::(bs s).drop (k+j+1))=b)):=by
    by_cases h46:s[k+j].toNat=46
    ·have hw:isWord s[k+j]=false:=by simp [isWord,isLetter,isDigit,h46]
     by_cases h1:k+j+1<s.size
     ·refine .inr (.inr ⟨hw,beq_iff_eq.2 (by omega),h1,_,rfl,?_⟩)
      show _=_
      have:(bs s).drop (k+j+1)=s[k+j+1]::(bs s).drop (k+j+1+1):=jk1 s (k+j+1) h1
      rw [this,nameByte_dot _ _ _ hw h46]
     ·refine .inr (.inl ⟨hw,beq_iff_eq.2 (by omega),h1,?_⟩)
      show _=_
      have:(bs s).drop (k+j+1)= []:=kz4 s (k+j+1) (by omega)
      rw [this,nameByte_dot_end _ hw]
    ·refine .inl ⟨_,rfl,beq_eq_false_iff_ne.2 (by omega),?_⟩
     show _=_
     cases hw:isWord s[k+j] with
     |true=>exact nameByte_word _ _ hw
     |false=>exact nameByte_not _ _ hw h46
   have hgo:nameByte (s[k+j]::(bs s).drop (k+j+1))=true→Hid (j+1+nameLen ((bs s).drop (k+(j+1)))=R):=by
    intro h
    have:=HJ.out;rw [HD.out,nameLen_cons _ _ h] at this;show _=_;rw [←Nat.add_assoc k];omega
   have hst:nameByte (s[k+j]::(bs s).drop (k+j+1))=false→Hid (j=R):=by
    intro h
    have:=HJ.out;rw [HD.out,nameLen_stop _ _ h] at this;exact this
   have HG:=Lib.hid hgo;clear hgo
   have HS:=Lib.hid hst;clear hst
   rcases hcase with ⟨b,hw,b1,HB⟩|⟨hw,b1,h1,HB⟩|⟨hw,b1,h1,b,hw1,HB⟩
   ·cases b with
    |true=>
     go_wp2_with (go_at_call 97;refine (kx1 _ _).mono ?_;rintro e w' ⟨rfl,rfl⟩)
     go_round
     case rel=>exact ⟨j+1,by omega,HG.out HB.out,by go_num⟩
     case measure=>simp [intOf];omega
    |false=>
     go_wp2_with (go_at_call 97;refine (kx1 _ _).mono ?_;rintro e w' ⟨rfl,rfl⟩)
     go_ret
     exact ⟨ret_int (congrArg (fun n:Nat=>(n:Int)) (HS.out HB.out).out),rfl⟩
   ·go_wp2_with (go_at_call 97;refine (kx1 _ _).mono ?_;rintro e w' ⟨rfl,rfl⟩)
    go_ret
    exact ⟨ret_int (congrArg (fun n:Nat=>(n:Int)) (HS.out HB.out).out),rfl⟩
   ·cases b with
    |true=>
     go_wp2_with (go_at_call 97;refine (kx1 _ _).mono ?_;rintro e w' ⟨rfl,rfl⟩)
     go_round
     case rel=>exact ⟨j+1,by omega,HG.out HB.out,by go_num⟩
     case measure=>simp [intOf];omega
    |false=>
     go_wp2_with (go_at_call 97;refine (kx1 _ _).mono ?_;rintro e w' ⟨rfl,rfl⟩)
     go_ret
     exact ⟨ret_int (congrArg (fun n:Nat=>(n:Int)) (HS.out HB.out).out),rfl⟩
  ·have HN:Hid (j=R):=by
    have:=HJ.out;unfold bs at this;rw [kz4 s (k+j) (by omega),nameLen] at this;exact this
   go_wp2_with fail
   go_ret
   exact ⟨ret_int (congrArg (fun n:Nat=>(n:Int)) HN.out),rfl⟩
end Go.Proofs.YtfaflipphkoiiaaDoor.Lx
namespace Go.Proofs.YtfaflipphkoiiaaDoor.Lx
open Go.RowKit
theorem jk2 (s:ByteArray) (k j:Nat) (h:k+j<s.size) (h':j<((bs s).drop k).length):((bs s).drop k)[j]=s[k+j]:=by
 rw [List.getElem_drop];rfl
theorem refNumber_any (s:ByteArray) (k:Nat) (w:World) (hs:s.size≤9223372036854775807) (hk:k≤s.size):
  Calls Tryd.prog 74 #[.string s,.int .i64 (k:Int)] w fun e w'=>
   e= .returned (.tuple #[.int .i64 (numLen ((bs s).drop k):Nat),.int .i64 (valFrom 0 (((bs s).drop k).take (min (numLen ((bs s).drop k)) 12)):Nat)])∧w=w':=by
 have hl:=kq8 ((bs s).drop k)
 rw [List.length_drop,jx7] at hl
 have hdig:=numLen_digits ((bs s).drop k)
 have hyes: ∀j (h:k+j<s.size),j<numLen ((bs s).drop k)→isDigit s[k+j]=true:=by
  intro j h hj
  have hb:=jx7 s
  have:=numLen_yes ((bs s).drop k) j (by rw [List.length_drop];omega) hj
  rwa [jk2 s k j h] at this
 have hno: ∀(h:k+numLen ((bs s).drop k)<s.size),isDigit s[k+numLen ((bs s).drop k)]=false:=by
  intro h
  have hb:=jx7 s
  have:=numLen_no ((bs s).drop k) (by rw [List.length_drop];omega)
  rwa [jk2 s k _ h] at this
 have hstep: ∀j (h:k+j<s.size),valFrom 0 (((bs s).drop k).take (j+1))=10*valFrom 0 (((bs s).drop k).take j)+(s[k+j].toNat-48):=by
  intro j h
  have hb:=jx7 s
  have h':j<((bs s).drop k).length:=by rw [List.length_drop];omega
  rw [List.take_succ_eq_append_getElem h',valFrom_snoc,jk2 s k j h]
 have hsmall: ∀j,j≤numLen ((bs s).drop k)→j≤12→valFrom 0 (((bs s).drop k).take j)<1000000000000:=by
  intro j hj h12
  refine valFrom_small _ (fun c hc=>hdig c ?_) (by rw [List.length_take];omega)
  have:((bs s).drop k).take j=(((bs s).drop k).take (numLen ((bs s).drop k))).take j:=by rw [List.take_take];congr 1;omega
  rw [this] at hc
  exact List.mem_of_mem_take hc
 clear hdig
 generalize numLen ((bs s).drop k)=R at*
 have HY:=Lib.hid hyes;clear hyes
 have HN:=Lib.hid hno;clear hno
 have HST:=Lib.hid hstep;clear hstep
 have HSM:=Lib.hid hsmall;clear hsmall
 go_enter Tryd.func74,Tryd.ntmps74
 go_wp2_with fail
 go_loop [6,7] (fun n v=> ∃j:Nat,j≤R∧n= .int .i64 j∧v= .int .i64 (valFrom 0 (((bs s).drop k).take (min j 12)):Nat)) (fun n _=>s.size-(intOf n).toNat)
 case atStart=>exact ⟨0,by omega,rfl,rfl⟩
 case round=>
  obtain ⟨j,hj,rfl,rfl⟩:=hrel
  by_cases hjR:j<R
  ·have hks:k+j<s.size:=by omega
   have hd:=HY.out j hks hjR
   by_cases h12:j<12
   ·have hv:=HSM.out j (by omega) (by omega)
    have HV:=Lib.hid (HST.out j hks)
    have hm:min j 12=j:=by omega
    have hm1:min (j+1) 12=j+1:=by omega
    rw [hm]
    have HM1:=Lib.hid hm1;clear hm hm1
    have hd1:(48:Int)≤s[k+j].toNat:=by unfold isDigit at hd;simp at hd;omega
    have hd2:(s[k+j].toNat:Int)≤57:=by unfold isDigit at hd;simp at hd;omega
    generalize valFrom 0 (((bs s).drop k).take j)=v at*
    go_wp2_with (go_at_call 73;refine (jv3 _ _).mono ?_;rintro e w' ⟨rfl,rfl⟩)
    go_round
    case rel=>exact ⟨j+1,by omega,by go_num,by rw [HM1.out,HV.out];go_num⟩
    case measure=>simp [intOf];omega
   ·have HM1:=Lib.hid (show min (j+1) 12=min j 12 by omega)
    go_wp2_with (go_at_call 73;refine (jv3 _ _).mono ?_;rintro e w' ⟨rfl,rfl⟩)
    go_round
    case rel=>exact ⟨j+1,by omega,by go_num,by rw [HM1.out]⟩
    case measure=>simp [intOf];omega
  ·have hjR':j=R:=by omega
   subst hjR'
   clear hjR
   by_cases hks:k+j<s.size
   ·have hd:=HN.out hks
    go_wp2_with (go_at_call 73;refine (jv3 _ _).mono ?_;rintro e w' ⟨rfl,rfl⟩)
    go_ret2
    exact ⟨rfl,rfl⟩
   ·go_wp2_with fail
    go_ret2
    exact ⟨rfl,rfl⟩
theorem isSym_iff (c:UInt8):isSym c=(c.toNat==59||c.toNat==58||c.toNat==44||c.toNat==61||c.toNat==47||c.toNat==45||c.toNat==40||c.toNat==41||c.toNat==123||c.toNat==125):=by
 have h: ∀n:UInt8,(c==n)=(c.toNat==n.toNat):=by
  intro n
  rw [Bool.eq_iff_iff,beq_iff_eq,beq_iff_eq]
  exact UInt8.toNat_inj.symm
 simp only [isSym,syms,List.contains_cons,List.contains_nil,h,Bool.or_false,Bool.or_assoc]
 rfl
theorem refSymbol_any (c:UInt8) (w:World):
  Calls Tryd.prog 75 #[.int .u8 (c.toNat:Int)] w fun e w'=>e= .returned (.bool (Lx.isSym c))∧w=w':=by
 have hc:c.toNat<256:=c.toNat_lt
 have e0:((ByteArray.mk #[59,58,44,61,47,45,40,41,123,125])[0]'(by decide)).toNat=59:=rfl
 have e1:((ByteArray.mk #[59,58,44,61,47,45,40,41,123,125])[1]'(by decide)).toNat=58:=rfl
 have e2:((ByteArray.mk #[59,58,44,61,47,45,40,41,123,125])[2]'(by decide)).toNat=44:=rfl
 have e3:((ByteArray.mk #[59,58,44,61,47,45,40,41,123,125])[3]'(by decide)).toNat=61:=rfl
 have e4:((ByteArray.mk #[59,58,44,61,47,45,40,41,123,125])[4]'(by decide)).toNat=47:=rfl
 have e5:((ByteArray.mk #[59,58,44,61,47,45,40,41,123,125])[5]'(by decide)).toNat=45:=rfl
 have e6:((ByteArray.mk #[59,58,44,61,47,45,40,41,123,125])[6]'(by decide)).toNat=40:=rfl
 have e7:((ByteArray.mk #[59,58,44,61,47,45,40,41,123,125])[7]'(by decide)).toNat=41:=rfl
 have e8:((ByteArray.mk #[59,58,44,61,47,45,40,41,123,125])[8]'(by decide)).toNat=123:=rfl
 have e9:((ByteArray.mk #[59,58,44,61,47,45,40,41,123,125])[9]'(by decide)).toNat=125:=rfl
 go_enter Tryd.func75,Tryd.ntmps75
 go_wp2_with fail
 go_rounds 11
 all_goals
  clear e0 e1 e2 e3 e4 e5 e6 e7 e8 e9
  go_ret
  refine ⟨ret_bool ?_,rfl⟩
  rw [isSym_iff,Bool.eq_iff_iff]
  simp at*
  omega
end Go.Proofs.YtfaflipphkoiiaaDoor.Lx
namespace Go.Proofs.YtfaflipphkoiiaaDoor.Lx
open Go.RowKit
theorem refTok_name (s:ByteArray) (k len:Nat) (w:World) (hs:s.size≤9223372036854775807) (hk:k<s.size) (hl:isLetter s[k]=true) (hn:nameLen ((bs s).drop k)=len) (h24:len≤24):
  Calls Tryd.prog 41 #[.string s,.int .i64 (k:Int)] w fun e w'=>
   e= .returned (.tuple #[.agg #[.int .i64 1,.string (s.extract k (k+len)),.int .i64 0,.int .i64 k],.int .i64 0])∧Below w.heap.size w w':=by
 have hle:=kq5 ((bs s).drop k)
 rw [List.length_drop,jx7,hn] at hle
 have Hn:=Lib.hid hn;clear hn
 have hsl:=kx8 s k len (by omega)
 go_enter Tryd.func41,Tryd.ntmps41
 go_wp2_with (go_at_call 71;refine (jz8 _ _).mono ?_;rintro e w' ⟨rfl,rfl⟩)
 refine (refName_any s k _ hs (by omega)).mono ?_
 rintro e w1 ⟨rfl,rfl⟩
 rw [Hn.out]
 go_wp2_with fail
 go_returns
 exact ⟨rfl,by go_grown⟩
theorem refTok_name_no (s:ByteArray) (k len:Nat) (w:World) (hs:s.size≤9223372036854775807) (hk:k<s.size) (hl:isLetter s[k]=true) (hn:nameLen ((bs s).drop k)=len) (h24:24<len):
  Calls Tryd.prog 41 #[.string s,.int .i64 (k:Int)] w fun e w'=>
   e= .returned (.tuple #[.agg #[.int .i64 0,.string ⟨#[]⟩,.int .i64 0,.int .i64 0],.int .i64 3])∧Below w.heap.size w w':=by
 have hle:=kq5 ((bs s).drop k)
 rw [List.length_drop,jx7,hn] at hle
 have Hn:=Lib.hid hn;clear hn
 go_enter Tryd.func41,Tryd.ntmps41
 go_wp2_with (go_at_call 71;refine (jz8 _ _).mono ?_;rintro e w' ⟨rfl,rfl⟩)
 refine (refName_any s k _ hs (by omega)).mono ?_
 rintro e w1 ⟨rfl,rfl⟩
 rw [Hn.out]
 go_wp2_with fail
 go_returns
 exact ⟨rfl,by go_grown⟩
theorem word_not_digit (c:UInt8) (h:isDigit c=false):isWord c=(isLetter c||c.toNat==95):=by simp [isWord,h]
theorem refTok_number (s:ByteArray) (k len:Nat) (w:World) (hs:s.size≤9223372036854775807) (hk:k<s.size) (hl:isLetter s[k]=false) (hd:isDigit s[k]=true) (hn:numLen ((bs s).drop k)=len) (h12:len≤12)
  (hw:wordAt ((bs s).drop (k+len))=false):
  Calls Tryd.prog 41 #[.string s,.int .i64 (k:Int)] w fun e w'=>
   e= .returned (.tuple #[.agg #[.int .i64 2,.string (s.extract k (k+len)),.int .i64 (valFrom 0 (((bs s).drop k).take len):Nat),.int .i64 k],.int .i64 0])∧Below w.heap.size w w':=by
 have hle:=kq8 ((bs s).drop k)
 rw [List.length_drop,jx7,hn] at hle
 have HM:=Lib.hid (show min len 12=len by omega)
 have Hn:=Lib.hid hn;clear hn
 have hsl:=kx8 s k len (by omega)
 have hcase:(∃h:k+len<s.size,isLetter s[k+len]=false∧((s[k+len].toNat:Int)==95)=false)∨ ¬k+len<s.size:=by
  by_cases hlt:k+len<s.size
  ·have h1:isWord s[k+len]=false:=by unfold bs at hw;rw [jk1 s _ hlt] at hw;exact hw
   refine .inl ⟨hlt,?_,?_⟩
   ·cases hx:isLetter s[k+len] with
    |false=>rfl
    |true=>simp [isWord,hx] at h1
   ·rw [beq_eq_false_iff_ne];intro hx
    have:s[k+len].toNat=95:=by omega
    simp [isWord,this] at h1
  ·exact .inr hlt
 have HW:=Lib.hid hw;clear hw
 rcases hcase with ⟨hlt,p1,p2⟩|hlt
 all_goals
  go_enter Tryd.func41,Tryd.ntmps41
  go_wp2_with (first|(go_at_call 71;refine (jz8 _ _).mono ?_;rintro e w' ⟨rfl,rfl⟩)|(go_at_call 73;refine (jv3 _ _).mono ?_;rintro e w' ⟨rfl,rfl⟩))
  refine (refNumber_any s k _ hs (by omega)).mono ?_
  rintro e w1 ⟨rfl,rfl⟩
  rw [Hn.out,HM.out]
  go_wp2_with (go_at_call 71;refine (jz8 _ _).mono ?_;rintro e w' ⟨rfl,rfl⟩)
  go_returns
  exact ⟨rfl,by go_grown⟩
theorem refTok_number_no (s:ByteArray) (k len:Nat) (w:World) (hs:s.size≤9223372036854775807) (hk:k<s.size) (hl:isLetter s[k]=false) (hd:isDigit s[k]=true) (hn:numLen ((bs s).drop k)=len)
  (hw:12<len∨wordAt ((bs s).drop (k+len))=true):
  Calls Tryd.prog 41 #[.string s,.int .i64 (k:Int)] w fun e w'=>
   e= .returned (.tuple #[.agg #[.int .i64 0,.string ⟨#[]⟩,.int .i64 0,.int .i64 0],.int .i64 5])∧Below w.heap.size w w':=by
 have hle:=kq8 ((bs s).drop k)
 rw [List.length_drop,jx7,hn] at hle
 have hcase:(12<len)∨(len≤12∧ ∃h:k+len<s.size,isLetter s[k+len]=true)∨(len≤12∧ ∃h:k+len<s.size,isLetter s[k+len]=false∧((s[k+len].toNat:Int)==95)=true):=by
  by_cases h12:12<len
  ·exact .inl h12
  ·have hw':=hw.resolve_left h12
   have hlt:k+len<s.size:=by
    rcases Nat.lt_or_ge (k+len) s.size with h|h
    ·exact h
    ·unfold bs at hw';rw [kz4 s _ h] at hw';simp [wordAt] at hw'
   have h1:isWord s[k+len]=true:=by unfold bs at hw';rw [jk1 s _ hlt] at hw';exact hw'
   have h2:isDigit s[k+len]=false:=by
    have hb:=jx7 s
    subst hn
    have:=numLen_no ((bs s).drop k) (by rw [List.length_drop];omega)
    rwa [jk2 s k _ hlt] at this
   rw [word_not_digit _ h2] at h1
   cases hx:isLetter s[k+len] with
   |true=>exact .inr (.inl ⟨by omega,hlt,hx⟩)
   |false=>
    refine .inr (.inr ⟨by omega,hlt,hx,?_⟩)
    rw [hx] at h1
    simp at h1
    exact beq_iff_eq.2 (by omega)
 clear hw
 have Hn:=Lib.hid hn;clear hn
 rcases hcase with h12|⟨h12,hlt,p1⟩|⟨h12,hlt,p1,p2⟩
 all_goals
  go_enter Tryd.func41,Tryd.ntmps41
  go_wp2_with (first|(go_at_call 71;refine (jz8 _ _).mono ?_;rintro e w' ⟨rfl,rfl⟩)|(go_at_call 73;refine (jv3 _ _).mono ?_;rintro e w' ⟨rfl,rfl⟩))
  refine (refNumber_any s k _ hs (by omega)).mono ?_
  rintro e w1 ⟨rfl,rfl⟩
  rw [Hn.out]
  go_wp2_with (go_at_call 71;refine (jz8 _ _).mono ?_;rintro e w' ⟨rfl,rfl⟩)
  go_returns
  exact ⟨rfl,by go_grown⟩
theorem refTok_symbol (s:ByteArray) (k:Nat) (w:World) (hs:s.size≤9223372036854775807) (hk:k<s.size) (hl:isLetter s[k]=false) (hd:isDigit s[k]=false) (hy:isSym s[k]=true):
  Calls Tryd.prog 41 #[.string s,.int .i64 (k:Int)] w fun e w'=>
   e= .returned (.tuple #[.agg #[.int .i64 3,.string (s.extract k (k+1)),.int .i64 0,.int .i64 k],.int .i64 0])∧Below w.heap.size w w':=by
 have hsl:=sl_str_one s k (by omega)
 go_enter Tryd.func41,Tryd.ntmps41
 go_wp2_with (first|(go_at_call 71;refine (jz8 _ _).mono ?_;rintro e w' ⟨rfl,rfl⟩)|(go_at_call 73;refine (jv3 _ _).mono ?_;rintro e w' ⟨rfl,rfl⟩)|(go_at_call 75;refine (refSymbol_any _ _).mono ?_;rintro e w' ⟨rfl,rfl⟩))
 go_returns
 exact ⟨rfl,by go_grown⟩
theorem refTok_char (s:ByteArray) (k:Nat) (w:World) (hs:s.size≤9223372036854775807) (hk:k<s.size) (hl:isLetter s[k]=false) (hd:isDigit s[k]=false) (hy:isSym s[k]=false):
  Calls Tryd.prog 41 #[.string s,.int .i64 (k:Int)] w fun e w'=>
   e= .returned (.tuple #[.agg #[.int .i64 0,.string ⟨#[]⟩,.int .i64 0,.int .i64 0],.int .i64 4])∧Below w.heap.size w w':=by
 go_enter Tryd.func41,Tryd.ntmps41
 go_wp2_with (first|(go_at_call 71;refine (jz8 _ _).mono ?_;rintro e w' ⟨rfl,rfl⟩)|(go_at_call 73;refine (jv3 _ _).mono ?_;rintro e w' ⟨rfl,rfl⟩)|(go_at_call 75;refine (refSymbol_any _ _).mono ?_;rintro e w' ⟨rfl,rfl⟩))
 go_returns
 exact ⟨rfl,by go_grown⟩
theorem refTok_ok (s x:ByteArray) (k kd v:Nat) (w:World) (hs:s.size≤9223372036854775807) (hk:k<s.size) (h:tokOf ((bs s).drop k)= .ok (kd,x.size,v)) (hx:s.extract k (k+x.size)=x):
  Calls Tryd.prog 41 #[.string s,.int .i64 (k:Int)] w fun e w'=>
   e= .returned (.tuple #[.agg #[.int .i64 kd,.string x,.int .i64 v,.int .i64 k],.int .i64 0])∧Below w.heap.size w w':=by
 rw [←hx]
 rw [tokOf_drop s k hk] at h
 generalize x.size=len at h ⊢
 by_cases hl:isLetter s[k]=true
 ·rw [if_pos hl] at h
  by_cases h24:24<nameLen ((bs s).drop k)
  ·rw [if_pos h24] at h;cases h
  ·rw [if_neg h24] at h
   injection h with h
   simp only [Prod.mk.injEq] at h
   obtain ⟨rfl,rfl,rfl⟩:=h
   exact refTok_name s k _ w hs hk hl rfl (by omega)
 ·rw [if_neg hl] at h
  have hl':isLetter s[k]=false:=by simpa using hl
  by_cases hd:isDigit s[k]=true
  ·rw [if_pos hd] at h
   by_cases hb:12<numLen ((bs s).drop k)∨wordAt ((bs s).drop (k+numLen ((bs s).drop k)))=true
   ·rw [if_pos hb] at h;cases h
   ·rw [if_neg hb] at h
    injection h with h
    simp only [Prod.mk.injEq] at h
    obtain ⟨rfl,rfl,rfl⟩:=h
    have hb1: ¬12<numLen ((bs s).drop k):=fun x=>hb (.inl x)
    have hb2:wordAt ((bs s).drop (k+numLen ((bs s).drop k)))=false:=by
     cases hx:wordAt ((bs s).drop (k+numLen ((bs s).drop k))) with
     |false=>rfl
     |true=>exact absurd (.inr hx) hb
    exact refTok_number s k _ w hs hk hl' hd rfl (by omega) hb2
  ·rw [if_neg hd] at h
   have hd':isDigit s[k]=false:=by simpa using hd
   by_cases hy:isSym s[k]=true
   ·rw [if_pos hy] at h
    injection h with h
    simp only [Prod.mk.injEq] at h
    obtain ⟨rfl,rfl,rfl⟩:=h
    exact refTok_symbol s k w hs hk hl' hd' hy
   ·rw [if_neg hy] at h;cases h
theorem refTok_no (s:ByteArray) (k er:Nat) (w:World) (hs:s.size≤9223372036854775807) (hk:k<s.size) (h:tokOf ((bs s).drop k)= .error er):
  Calls Tryd.prog 41 #[.string s,.int .i64 (k:Int)] w fun e w'=>
   (e= .returned (.tuple #[.agg #[.int .i64 0,.string ⟨#[]⟩,.int .i64 0,.int .i64 0],.int .i64 er])∧er≠0)∧Below w.heap.size w w':=by
 rw [tokOf_drop s k hk] at h
 by_cases hl:isLetter s[k]=true
 ·rw [if_pos hl] at h
  by_cases h24:24<nameLen ((bs s).drop k)
  ·rw [if_pos h24] at h
   injection h with h
   subst h
   exact (refTok_name_no s k _ w hs hk hl rfl h24).mono fun e w' h=>⟨⟨h.1,by omega⟩,h.2⟩
  ·rw [if_neg h24] at h;cases h
 ·rw [if_neg hl] at h
  have hl':isLetter s[k]=false:=by simpa using hl
  by_cases hd:isDigit s[k]=true
  ·rw [if_pos hd] at h
   by_cases hb:12<numLen ((bs s).drop k)∨wordAt ((bs s).drop (k+numLen ((bs s).drop k)))=true
   ·rw [if_pos hb] at h
    injection h with h
    subst h
    exact (refTok_number_no s k _ w hs hk hl' hd rfl hb).mono fun e w' h=>⟨⟨h.1,by omega⟩,h.2⟩
   ·rw [if_neg hb] at h;cases h
  ·rw [if_neg hd] at h
   have hd':isDigit s[k]=false:=by simpa using hd
   by_cases hy:isSym s[k]=true
   ·rw [if_pos hy] at h;cases h
   ·rw [if_neg hy] at h
    injection h with h
    subst h
    exact (refTok_char s k w hs hk hl' hd' (by simpa using hy)).mono fun e w' h=>⟨⟨h.1,by omega⟩,h.2⟩
end Go.Proofs.YtfaflipphkoiiaaDoor.Lx
namespace Go.Proofs.YtfaflipphkoiiaaDoor.Lx
open Go.RowKit
theorem ScanEnd.lex_ok {s:ByteArray} {B:Nat} {v:Value} {w':World} (hs: ¬20000<s.size) (h:ScanEnd s B (.returned v) w'):LexEnd s B (.returned (.tuple #[v,.int .i64 0,.int .i64 0])) w':=by
 unfold ScanEnd at h
 cases hl:lexP (s.size+1) (bs s) (gapLen false (bs s)) 0 with
 |ok ts=>
  rw [hl] at h
  obtain ⟨v',he,ho⟩:=h
  injection he with he
  subst he
  obtain ⟨A,cap,rfl⟩:=own_form ho
  exact LexEnd.of_ok (lex_of_ok hs hl) rfl ho
 |error x=>rw [hl] at h;cases h
theorem ScanEnd.lex_err {s:ByteArray} {B er p:Nat} {w':World} (hs: ¬20000<s.size) (h:ScanEnd s B (.panicked (fail_ er p)) w'):LexEnd s B (.returned (.tuple #[.slice none 0 0,.int .i64 er,.int .i64 p])) w':=by
 unfold ScanEnd at h
 cases hl:lexP (s.size+1) (bs s) (gapLen false (bs s)) 0 with
 |ok ts=>
  rw [hl] at h
  obtain ⟨v',he,ho⟩:=h
  cases he
 |error x=>
  obtain ⟨er',p'⟩:=x
  rw [hl] at h
  simp only [fail_,Ending.panicked.injEq,List.cons.injEq,PanicEntry.mk.injEq,Value.iface.injEq,Value.agg.injEq,true_and,and_true] at h
  have h':(er:Int)=er'∧(p:Int)=p':=by
   have:=h
   simp at this
   omega
  obtain ⟨rfl,rfl⟩:er=er'∧p=p':=by omega
  exact LexEnd.of_err (lex_of_err hs hl) rfl
theorem refLex_any (s:ByteArray) (w:World) (hs:s.size≤9223372036854775807):
  Calls Tryd.prog 23 #[.string s] w fun e w'=>LexEnd s w.heap.size e w'∧Below w.heap.size w w':=by
 by_cases h2:20000<s.size
 ·have HL:Hid (lex (bs s)= .error (3,-1)):=by unfold lex;rw [if_pos (by rw [jx7];exact h2)];rfl
  go_enter Tryd.func23,Tryd.ntmps23
  go_wp2_with fail
  go_ret3
  exact ⟨LexEnd.of_err HL.out rfl,Below.refl _ _⟩
 ·obtain ⟨i0,hi,hz0,hz1,hz2⟩:=info_parts info_tok
  go_enter Tryd.func23,Tryd.ntmps23
  go_wp2_with fail
  refine (refGap_any s 0 _ (by omega) (by omega)).mono ?_
  rintro e w1 ⟨rfl,rfl⟩
  rw [List.drop_zero]
  go_wp2_with fail
  go_loopw [5,6] (fun v i wr=> ∃(ts:List Tok) (p:Nat),i= .int .i64 p∧ScanRel s w ts p v wr) (fun _ i _=>s.size-(intOf i).toNat)
  case atStart=>exact ⟨[],_,rfl,ScanRel.start s w w (Below.refl _ _)⟩
  case round=>
   obtain ⟨ts,p,rfl,HR⟩:=hrel
   obtain ⟨A,cap,rfl⟩:=HR.form
   have hp:=HR.1
   have h5:=HR.2.1
   have hB:=HR.2.2.2.1.size
   by_cases hlt:p<s.size
   ·cases htok:tokOf ((bs s).drop p) with
    |error er=>
     have HE:=Lib.hid htok;clear htok
     go_wp2_with fail
     refine (refTok_no s p er _ (by omega) hlt HE.out).mono ?_
     rintro e w2 ⟨⟨rfl,hne⟩,hb2⟩
     have be:((er:Int) !=0)=true:=by rw [bne_iff_ne];omega
     clear hne
     go_wp2_with fail
     go_ret3
     exact ⟨ScanEnd.lex_err h2 (HR.err hlt HE.out),(HR.2.2.2.1.trans (hb2.mono hB)).alloc (Nat.le_trans hB hb2.size) _⟩
    |ok x=>
     obtain ⟨k,len,n⟩:=x
     have HE:=Lib.hid htok;clear htok
     have hlen:=tokOf_len _ _ _ _ HE.out
     rw [List.length_drop,jx7] at hlen
     obtain ⟨x,hxe,hxs⟩: ∃x,s.extract p (p+len)=x∧x.size=len:=⟨_,rfl,extract_size s p len (by omega)⟩
     subst hxs
     have HX:=Lib.hid hxe;clear hxe
     by_cases hc:ts.length=5000
     ·have bc:((ts.length:Int)==5000)=true:=beq_iff_eq.2 (by omega)
      have HC:=Lib.hid hc;clear hc
      go_wp2_with fail
      refine (refTok_ok s x p k n _ (by omega) hlt HE.out HX.out).mono ?_
      rintro e w2 ⟨rfl,hb2⟩
      go_wp2_with fail
      go_ret3
      exact ⟨ScanEnd.lex_err h2 (HR.full hlt HE.out HC.out),(HR.2.2.2.1.trans (hb2.mono hB)).alloc (Nat.le_trans hB hb2.size) _⟩
     ·have bc:((ts.length:Int)==5000)=false:=beq_eq_false_iff_ne.2 (by omega)
      go_wp2_with fail
      refine (refTok_ok s x p k n _ (by omega) hlt HE.out HX.out).mono ?_
      rintro e w2 ⟨rfl,hb2⟩
      have hown2:=kz5 HR.2.2.1 hb2
      have hbw2:Below w.heap.size w w2:=HR.2.2.2.1.trans (hb2.mono hB)
      have HB2:=Lib.hid hbw2;clear hbw2
      have hB2:w.heap.size≤w2.heap.size:=HB2.out.size
      have HO:=Lib.hid hown2;clear hown2
      clear hb2
      go_wp2_with (at_builtin;refine wpList_append_own_at _ rfl _ _ 33 rfl w.heap.size 40 i0 _ 4 40 Tryd.underlying33 hi hz0 hz1 hz2 rfl (by decide) _ ts.length (cellsAll ts) rfl (kz5 (kz5 HO.out ((Below.refl _ _).alloc (Nat.le_refl _) _)) ((Below.refl _ _).alloc (Nat.le_refl _) _)) ⟨w2.heap.size+1,0,none⟩ 1 1 [.int .i64 k,.string x,.int .i64 n,.int .i64 p] rfl rfl ?c1 ?c2 ?c3 ?c4 ?c5 ?_)
      case c1=>exact cells_new _ [.int .i64 k,.string x,.int .i64 n,.int .i64 p] _ _ (by simp)
      case c2=>intro u hu;simp at hu;rcases hu with rfl|rfl|rfl|rfl<;>rfl
      case c3=>simp only [maxLen];omega
      case c4=>omega
      case c5=>simp only [World.size_alloc];omega
      intro v3 w3 hown3 hg3 hnil3 hat3
      obtain ⟨A3,cap3,rfl⟩:=own_form hown3
      have hne: ∀g,(Value.slice A ts.length cap).ownBlock=some g→w.heap.size≤g∧g<w2.heap.size:=own_lt HO.out
      have hB3:Below w.heap.size w w3:=((HB2.out.alloc hB2 _).alloc (by simp only [World.size_alloc];omega) _).grown hg3 (by simp only [World.size_alloc];omega) (fun k hk=>(hne k hk).1)
      have qt:w3.cell? ⟨w2.heap.size,1,none⟩=some (.string x):=by
       rw [World.cell?_of_block (hg3.block w2.heap.size (by simp only [World.size_alloc];omega) (fun e=>by have:=(hne _ e.symm).2;omega))]
       simp
      have HO3:=Lib.hid hown3;clear hown3
      have HB3:=Lib.hid hB3;clear hB3 hg3 hnil3 hat3 hne
      go_wp2_with fail
      rw [←Int.natCast_add]
      refine (refGap_any s (p+x.size) _ (by omega) (by omega)).mono ?_
      rintro e w4 ⟨rfl,rfl⟩
      have hgl:=gap_le s (p+x.size) (by omega)
      go_wp2_with fail
      go_roundw
      case rel=>exact ⟨_,p+x.size+gapLen false ((bs s).drop (p+x.size)),by go_num,HR.step hlt HE.out hc (by rw [HX.out];exact HO3.out) HB3.out⟩
      case measure=>simp [intOf];omega
   ·go_wp2_with fail
    go_ret3
    exact ⟨ScanEnd.lex_ok h2 (HR.done hlt),HR.2.2.2.1⟩
end Go.Proofs.YtfaflipphkoiiaaDoor.Lx
