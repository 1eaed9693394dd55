/-
  What the small functions of package lexer return: letters, digits, name bytes, the end of a run of bytes, for every text of at most 2^63 - 1 bytes. What the functions name, number, token and afterGaps of package lexer return, or the panic with which they end. What the functions number, token and afterGaps of package lexer return, or the panic with which they end. What the function afterGaps of package lexer returns; the panic with which number ends.
-/
import Derived.Test.YtfaflipphkoiiaaDoorProg
import Derived.Test.YtfaflipphkoiiaaDoorLexPlain
import Derived.WalkKit
import Derived.WalkLawsBesides
import Derived.Deep.QuietTactic
import Derived.BigQuiet
import Derived.Lib.Hide
import Derived.Handy
import Derived.Outline
import Derived.Lib.ConvBytes
import Derived.Lib.Strings
set_option maxHeartbeats 64000000
set_option maxRecDepth 100000
namespace Go.Proofs.YtfaflipphkoiiaaDoor
open Go.RowKit
theorem ret_bool {a b:Bool} (h:a=b):Ending.returned (.bool a)= .returned (.bool b):=by rw [h]
theorem ret_int {k:IntKind} {a b:Int} (h:a=b):Ending.returned (.int k a)= .returned (.int k b):=by rw [h]
theorem jk1 (s:ByteArray) (k:Nat) (h:k<s.size):s.data.toList.drop k=s[k]::s.data.toList.drop (k+1):=by
 have h':k<s.data.toList.length:=by simpa using h
 rw [List.drop_eq_getElem_cons h'];rfl
theorem kz4 (s:ByteArray) (k:Nat) (h:s.size≤k):s.data.toList.drop k= []:=by
 apply List.drop_eq_nil_of_le;simpa using h
theorem mkFunc (fn:Fn) (first cap:Array Value) (w:World):(Instr.makeFunc fn first cap).run Tryd.prog w= .ok (.func fn first cap) w:=rfl
namespace Lx
theorem jk4 (c:UInt8) (w:World):
  Calls Tryd.prog 84 #[.int .u8 (c.toNat:Int)] w fun e w'=>e= .returned (.bool (Lx.isDigit c))∧w=w':=by
 have hc:c.toNat<256:=c.toNat_lt
 go_enter Tryd.func84,Tryd.ntmps84
 go_wp2
 all_goals
  go_ret
  exact ⟨ret_bool (by unfold Lx.isDigit;rw [Bool.eq_iff_iff];simp;omega),rfl⟩
theorem jj0 (c:UInt8) (w:World):
  Calls Tryd.prog 82 #[.int .u8 (c.toNat:Int)] w fun e w'=>e= .returned (.bool (Lx.isLetter c))∧w=w':=by
 have hc:c.toNat<256:=c.toNat_lt
 go_enter Tryd.func82,Tryd.ntmps82
 go_wp2
 all_goals
  go_ret
  exact ⟨ret_bool (by unfold Lx.isLetter;rw [Bool.eq_iff_iff];simp;omega),rfl⟩
theorem jv7 (c:UInt8) (w:World):
  Calls Tryd.prog 100 #[.int .u8 (c.toNat:Int)] w fun e w'=>e= .returned (.bool (Lx.isWord c))∧w=w':=by
 have hc:c.toNat<256:=c.toNat_lt
 go_enter Tryd.func100,Tryd.ntmps100
 go_wp2_with (first|(go_at_call 82;refine (jj0 _ _).mono ?_;rintro e w' ⟨rfl,rfl⟩)|(go_at_call 84;refine (jk4 _ _).mono ?_;rintro e w' ⟨rfl,rfl⟩))
 all_goals
  go_ret
  exact ⟨ret_bool (by unfold Lx.isWord;simp [*];try (rw [Bool.eq_iff_iff];simp;omega)),rfl⟩
theorem number1_any (i:Nat) (a:Addr) (s:ByteArray) (w:World) (hi:i<s.size) (hcell:w.cell? a=some (.string s)):
  Calls Tryd.prog 101 #[.int .i64 (i:Int),.pointer (some a)] w fun e w'=>e= .returned (.bool (Lx.isDigit s[i]))∧w=w':=by
 go_enter Tryd.func101,Tryd.ntmps101
 go_wp2_with (go_at_call 84;refine (jk4 _ _).mono ?_;rintro e w' ⟨rfl,rfl⟩)
 go_ret
 exact ⟨rfl,rfl⟩
theorem gaps1_any (i:Nat) (a:Addr) (s:ByteArray) (w:World) (hi:i<s.size) (hcell:w.cell? a=some (.string s)):
  Calls Tryd.prog 81 #[.int .i64 (i:Int),.pointer (some a)] w fun e w'=>e= .returned (.bool (s[i].toNat !=10))∧w=w':=by
 go_enter Tryd.func81,Tryd.ntmps81
 go_wp2
 go_ret
 refine ⟨ret_bool ?_,rfl⟩
 rw [Bool.eq_iff_iff];simp;omega
theorem name1_any (i:Nat) (a:Addr) (s:ByteArray) (w:World) (hs:s.size≤9223372036854775807) (hi:i<s.size) (hcell:w.cell? a=some (.string s)):
  Calls Tryd.prog 99 #[.int .i64 (i:Int),.pointer (some a)] w fun e w'=>e= .returned (.bool (Lx.nameByte (s.data.toList.drop i)))∧w=w':=by
 have HF:=Lib.hid (jk1 s i hi)
 by_cases hd:((s[i].toNat:Int)==46)=true
 ·have hdn:s[i].toNat=46:=by have:=beq_iff_eq.1 hd;omega
  have HD:=Lib.hid hdn;clear hdn
  by_cases hi1:i+1<s.size
  ·have HG:=Lib.hid (jk1 s (i+1) hi1)
   by_cases hw:Lx.isWord s[i+1]=true
   ·go_enter Tryd.func99,Tryd.ntmps99
    go_wp2_with (go_at_call 100;refine (jv7 _ _).mono ?_;rintro e w' ⟨rfl,rfl⟩)
    go_ret
    exact ⟨ret_bool (by rw [HF.out,HG.out];simp [Lx.nameByte,HD.out,hw]),rfl⟩
   ·have hw':Lx.isWord s[i+1]=false:=by simpa using hw
    go_enter Tryd.func99,Tryd.ntmps99
    go_wp2_with (go_at_call 100;refine (jv7 _ _).mono ?_;rintro e w' ⟨rfl,rfl⟩)
    go_ret
    exact ⟨ret_bool (by rw [HF.out,HG.out];simp [Lx.nameByte,HD.out,hw']),rfl⟩
  ·have HG:=Lib.hid (kz4 s (i+1) (by omega))
   go_enter Tryd.func99,Tryd.ntmps99
   go_wp2_with (go_at_call 100;refine (jv7 _ _).mono ?_;rintro e w' ⟨rfl,rfl⟩)
   go_ret
   exact ⟨ret_bool (by rw [HF.out,HG.out];simp [Lx.nameByte]),rfl⟩
 ·have hd':((s[i].toNat:Int)==46)=false:=by simpa using hd
  have hdn:(s[i].toNat==46)=false:=by have:=beq_eq_false_iff_ne.1 hd';rw [beq_eq_false_iff_ne];omega
  have HD:=Lib.hid hdn;clear hdn
  go_enter Tryd.func99,Tryd.ntmps99
  go_wp2_with (go_at_call 100;refine (jv7 _ _).mono ?_;rintro e w' ⟨rfl,rfl⟩)
  go_ret
  exact ⟨ret_bool (by rw [HF.out];simp only [Lx.nameByte];rw [HD.out];simp),rfl⟩
theorem end_any (F:Nat) (p:Nat→Bool) (a:Addr) (s:ByteArray) (w:World) (k0 r:Nat) (hs:s.size≤9223372036854775807) (h0:k0≤r) (hr:r≤s.size)
  (hyes: ∀k,k0≤k→k<r→p k=true) (hno:r<s.size→p r=false)
  (hF: ∀(args:Array Value) (W:World),(callFunc F args).run Tryd.prog W= .ok (.enter F args) W)
  (hcall: ∀i:Nat,i<s.size→Calls Tryd.prog F #[.int .i64 (i:Int),.pointer (some a)] w fun e w'=>e= .returned (.bool (p i))∧w=w'):
  Calls Tryd.prog 80 #[.string s,.int .i64 (k0:Int),.func (.func F) #[] #[.pointer (some a)]] w fun e w'=>e= .returned (.int .i64 (r:Int))∧w=w':=by
 have Hyes:=Lib.hid hyes;clear hyes
 have Hno:=Lib.hid hno;clear hno
 have Hcall:=Lib.hid hcall;clear hcall
 go_enter Tryd.func80,Tryd.ntmps80
 go_wp2_with fail
 go_loop [1] (fun i=> ∃k:Nat,k0≤k∧k≤r∧i= .int .i64 k) (fun i=>s.size-(intOf i).toNat)
 case atStart=>exact ⟨k0,Nat.le_refl _,h0,rfl⟩
 case round=>
  obtain ⟨k,hk0,hkr,rfl⟩:=hrel
  by_cases hlt:k<r
  ·have hp:=Hyes.out k hk0 hlt
   have hks:k<s.size:=by omega
   go_wp2_with fail
   refine (Hcall.out k hks).mono ?_
   rintro e w' ⟨rfl,rfl⟩
   go_wp2_with fail
   go_round
   case rel=>exact ⟨k+1,by omega,by omega,by go_num⟩
   case measure=>simp [intOf];omega
  ·have hkr:k=r:=by omega
   subst hkr
   clear hlt
   by_cases hks:k<s.size
   ·have hp:=Hno.out hks
    go_wp2_with fail
    refine (Hcall.out k hks).mono ?_
    rintro e w' ⟨rfl,rfl⟩
    go_wp2_with fail
    go_ret
    exact ⟨rfl,rfl⟩
   ·go_wp2_with fail
    go_ret
    exact ⟨rfl,rfl⟩
end Lx
end Go.Proofs.YtfaflipphkoiiaaDoor
namespace Go.Proofs.YtfaflipphkoiiaaDoor.Lx
open Go.RowKit
theorem enters_name1 (args:Array Value) (W:World):(callFunc 99 args).run Tryd.prog W= .ok (.enter 99 args) W:=by kernel_rfl
theorem enters_number1 (args:Array Value) (W:World):(callFunc 101 args).run Tryd.prog W= .ok (.enter 101 args) W:=by kernel_rfl
theorem enters_gaps1 (args:Array Value) (W:World):(callFunc 81 args).run Tryd.prog W= .ok (.enter 81 args) W:=by kernel_rfl
def bs (s:ByteArray):List UInt8:=s.data.toList
theorem jx7 (s:ByteArray):(bs s).length=s.size:=by simp [bs]
theorem end_name (a:Addr) (s:ByteArray) (w:World) (k:Nat) (hs:s.size≤9223372036854775807) (hk:k≤s.size) (hcell:w.cell? a=some (.string s)):
  Calls Tryd.prog 80 #[.string s,.int .i64 (k:Int),.func (.func 99) #[] #[.pointer (some a)]] w fun e w'=>e= .returned (.int .i64 ((k+nameLen ((bs s).drop k):Nat):Int))∧w=w':=by
 have hl:=kq5 ((bs s).drop k)
 rw [List.length_drop,jx7] at hl
 refine end_any 99 (fun i=>nameByte ((bs s).drop i)) a s w k _ hs (by omega) (by omega) ?_ ?_ enters_name1 (fun i hi=>name1_any i a s w hs hi hcell)
 ·intro j h1 h2
  have:=nameLen_yes ((bs s).drop k) (j-k) (by omega)
  rw [List.drop_drop] at this
  rwa [show k+(j-k)=j by omega] at this
 ·intro h
  have:=nameLen_no ((bs s).drop k) (by rw [List.length_drop,jx7];omega)
  rwa [List.drop_drop] at this
theorem end_number (a:Addr) (s:ByteArray) (w:World) (k:Nat) (hs:s.size≤9223372036854775807) (hk:k≤s.size) (hcell:w.cell? a=some (.string s)):
  Calls Tryd.prog 80 #[.string s,.int .i64 (k:Int),.func (.func 101) #[] #[.pointer (some a)]] w fun e w'=>e= .returned (.int .i64 ((k+numLen ((bs s).drop k):Nat):Int))∧w=w':=by
 have hl:=kq8 ((bs s).drop k)
 rw [List.length_drop,jx7] at hl
 refine end_any 101 (fun i=>if h:i<s.size then isDigit s[i] else false) a s w k _ hs (by omega) (by omega) ?_ ?_ enters_number1 (fun i hi=>by simpa only [dif_pos hi] using number1_any i a s w hi hcell)
 ·intro j h1 h2
  have hj:j<s.size:=by omega
  have hb:=jx7 s
  have:=numLen_yes ((bs s).drop k) (j-k) (by rw [List.length_drop];omega) (by omega)
  simp only [List.getElem_drop,show k+(j-k)=j by omega] at this
  simp only [dif_pos hj]
  exact this
 ·intro h
  have:=numLen_no ((bs s).drop k) (by rw [List.length_drop,jx7];omega)
  simp only [List.getElem_drop] at this
  simp only [dif_pos h]
  exact this
theorem end_gaps (a:Addr) (s:ByteArray) (w:World) (k:Nat) (hs:s.size≤9223372036854775807) (hk:k≤s.size) (hcell:w.cell? a=some (.string s)):
  Calls Tryd.prog 80 #[.string s,.int .i64 (k:Int),.func (.func 81) #[] #[.pointer (some a)]] w fun e w'=>e= .returned (.int .i64 ((k+comLen ((bs s).drop k):Nat):Int))∧w=w':=by
 have hl:=comLen_le ((bs s).drop k)
 rw [List.length_drop,jx7] at hl
 refine end_any 81 (fun i=>if h:i<s.size then s[i].toNat !=10 else false) a s w k _ hs (by omega) (by omega) ?_ ?_ enters_gaps1 (fun i hi=>by simpa only [dif_pos hi] using gaps1_any i a s w hi hcell)
 ·intro j h1 h2
  have hj:j<s.size:=by omega
  have hb:=jx7 s
  have:=comLen_yes ((bs s).drop k) (j-k) (by rw [List.length_drop];omega) (by omega)
  simp only [List.getElem_drop,show k+(j-k)=j by omega] at this
  simp only [dif_pos hj]
  exact bne_iff_ne.2 this
 ·intro h
  have:=comLen_no ((bs s).drop k) (by rw [List.length_drop,jx7];omega)
  simp only [List.getElem_drop] at this
  simp only [dif_pos h]
  rw [bne_eq_false_iff_eq];exact this
theorem sl_str (s:ByteArray) (i j:Nat) (h:i≤j) (h2:j≤s.size) (W:World):
  (Instr.slice 9 (.string s) (some (.int .i64 (i:Int))) (some (.int .i64 (j:Int))) none).run Tryd.prog W= .ok (.string (s.extract i j)) W:=by
 have:=run_slice_string (P:=Tryd.prog) W 9 s .i64 .i64 (i:Int) (j:Int) Tryd.underlying9 (by omega) (by omega) (by omega)
 simpa using this
theorem kx8 (s:ByteArray) (i n:Nat) (h2:i+n≤s.size) (W:World):
  (Instr.slice 9 (.string s) (some (.int .i64 (i:Int))) (some (.int .i64 ((i:Int)+(n:Int)))) none).run Tryd.prog W= .ok (.string (s.extract i (i+n))) W:=by
 have:=sl_str s i (i+n) (by omega) h2 W
 rwa [Int.natCast_add] at this
theorem sl_str_one (s:ByteArray) (i:Nat) (h2:i+1≤s.size) (W:World):
  (Instr.slice 9 (.string s) (some (.int .i64 (i:Int))) (some (.int .i64 ((i:Int)+1))) none).run Tryd.prog W= .ok (.string (s.extract i (i+1))) W:=by
 have:=sl_str s i (i+1) (by omega) h2 W
 rwa [Int.natCast_add] at this
theorem name_ok (s:ByteArray) (k n:Nat) (w:World) (hs:s.size≤9223372036854775807) (hk:k≤s.size) (hn:nameLen ((bs s).drop k)=n) (h24:n≤24):
  Calls Tryd.prog 83 #[.string s,.int .i64 (k:Int)] w fun e w'=>
   e= .returned (.agg #[.int .i64 1,.string (s.extract k (k+n)),.int .i64 0,.int .i64 k])∧Below w.heap.size w w':=by
 have hl:=kq5 ((bs s).drop k)
 rw [List.length_drop,jx7,hn] at hl
 have Hn:=Lib.hid hn;clear hn
 have hmf:=mkFunc
 have hsl:=kx8 s k n (by omega)
 go_enter Tryd.func83,Tryd.ntmps83
 go_wp2_with fail
 refine (end_name _ s _ k hs hk (by simp)).mono ?_
 rintro e w' ⟨rfl,rfl⟩
 rw [Hn.out]
 go_wp2_with fail
 go_returns
 exact ⟨rfl,by go_grown⟩
def fail_ (e:Int) (k:Nat):List PanicEntry:= [{v:= .iface 78 (.agg #[.int .i64 e,.int .i64 k]),recovered:=false}]
theorem name_no (s:ByteArray) (k n:Nat) (w:World) (hs:s.size≤9223372036854775807) (hk:k≤s.size) (hn:nameLen ((bs s).drop k)=n) (h24:24<n):
  Calls Tryd.prog 83 #[.string s,.int .i64 (k:Int)] w fun e w'=>
   e= .panicked (fail_ 3 k)∧Below w.heap.size w w':=by
 have hl:=kq5 ((bs s).drop k)
 rw [List.length_drop,jx7,hn] at hl
 have Hn:=Lib.hid hn;clear hn
 have hmf:=mkFunc
 go_enter Tryd.func83,Tryd.ntmps83
 go_wp2_with fail
 refine (end_name _ s _ k hs hk (by simp)).mono ?_
 rintro e w' ⟨rfl,rfl⟩
 rw [Hn.out]
 go_wp2_with fail
 exact ⟨rfl,rfl,by go_grown⟩
end Go.Proofs.YtfaflipphkoiiaaDoor.Lx
namespace Go.Proofs.YtfaflipphkoiiaaDoor.Lx
open Go.RowKit
theorem conv_bytes (W:World) (s:ByteArray): ∃cap W1,(convert 9 82 (.string s)).run Tryd.prog W= .ok (.slice (some ⟨W.heap.size,0,none⟩) s.size cap) W1∧
  Below W.heap.size W W1∧W1.heap.size=W.heap.size+1∧ ∀j (hj:j<s.size),W1.cell? ⟨W.heap.size,j,none⟩=some (.int .u8 (s[j].toNat:Int)):=by
 refine ⟨_,_,Lib.run_convert_string_bytes W 9 82 5 s Tryd.underlying9 Tryd.underlying82 Tryd.underlying5,⟨?_,?_,?_,?_,?_⟩,Lib.bytesWorld_size _ _ _,?_⟩
 ·simp [Lib.bytesWorld,World.freeze,World.alloc,World.drew,-World.alloc_eq,-World.drew_eq]
 ·simp [Lib.bytesWorld,World.freeze,World.alloc,World.drew,-World.alloc_eq,-World.drew_eq]
 ·simp [Lib.bytesWorld,World.freeze,World.alloc,World.drew,-World.alloc_eq,-World.drew_eq]
 ·rw [Lib.bytesWorld_size];omega
 ·intro k hk;exact Lib.bytesWorld_at_old W _ s k hk
 ·intro j hj
  rw [Lib.bytesWorld_cell W _ s j hj,List.getD_eq_getElem?_getD,List.getElem?_eq_getElem (by simpa using hj)]
  rfl
theorem jv5 {w:World} {a:Addr} {v:Value} (h:(w.cell? a).isSome=true):(w.setCell a v).cell? a=some v:=by
 cases hu:w.cell? a with
 |none=>rw [hu] at h;cases h
 |some u=>exact World.cell?_setCell_same _ _ _ hu
theorem take_snoc (s:ByteArray) (k:Nat) (h:k<s.size):(bs s).take (k+1)=(bs s).take k++ [s[k]]:=by
 have h':k<(bs s).length:=by rw [jx7];exact h
 rw [List.take_succ_eq_append_getElem h'];rfl
theorem bs_extract (s:ByteArray) (a b:Nat):bs (s.extract a b)=((bs s).drop a).take (b-a):=Lib.extract_data s a b
theorem extract_size (s:ByteArray) (a n:Nat) (h:a+n≤s.size):(s.extract a (a+n)).size=n:=by
 rw [ByteArray.size_extract];omega
theorem number_ok (s:ByteArray) (k n:Nat) (w:World) (hs:s.size≤9223372036854775807) (hk:k≤s.size) (hn:numLen ((bs s).drop k)=n) (h12:n≤12)
  (hw:wordAt ((bs s).drop (k+n))=false):
  Calls Tryd.prog 85 #[.string s,.int .i64 (k:Int)] w fun e w'=>
   e= .returned (.agg #[.int .i64 2,.string (s.extract k (k+n)),.int .i64 (valFrom 0 (((bs s).drop k).take n):Nat),.int .i64 k])∧Below w.heap.size w w':=by
 have hl:=kq8 ((bs s).drop k)
 rw [List.length_drop,jx7,hn] at hl
 have hdig:=numLen_digits ((bs s).drop k)
 rw [hn] at hdig
 have hex:bs (s.extract k (k+n))=((bs s).drop k).take n:=by rw [bs_extract];congr 1;omega
 rw [←hex] at hdig ⊢
 have hxs:=extract_size s k n (by omega)
 have hmf:=mkFunc
 have hsl:=kx8 s k n (by omega)
 have Hn:=Lib.hid hn;clear hn hex
 generalize s.extract k (k+n)=x at*
 subst hxs
 have Hdig:=Lib.hid hdig;clear hdig
 have HW:=Lib.hid hw;clear hw
 obtain ⟨cap,W1,hconv,hb1,hz1,hc1⟩:=conv_bytes ((w.alloc (.cells #[.string s] 9)).alloc (.cells #[.int .i64 0,.string ⟨#[]⟩,.int .i64 0,.int .i64 0] 40)) x
 simp only [World.size_alloc] at hconv hz1 hc1 hb1
 have Hc1:=Lib.hid hc1;clear hc1
 have Hz1:=Lib.hid hz1;clear hz1
 have hsz:w.heap.size+2<W1.heap.size:=by have:=Hz1.out;omega
 have q0:W1.cell? ⟨w.heap.size,0,none⟩=some (.string s):=(hb1.cell (p:=⟨w.heap.size,0,none⟩) (by simp;omega)).trans (by simp)
 have q1:W1.cell? ⟨w.heap.size+1,0,none⟩=some (.int .i64 0):=(hb1.cell (p:=⟨w.heap.size+1,0,none⟩) (by simp)).trans (by simp)
 have q2:W1.cell? ⟨w.heap.size+1,1,none⟩=some (.string ⟨#[]⟩):=(hb1.cell (p:=⟨w.heap.size+1,1,none⟩) (by simp)).trans (by simp)
 have q3:W1.cell? ⟨w.heap.size+1,2,none⟩=some (.int .i64 0):=(hb1.cell (p:=⟨w.heap.size+1,2,none⟩) (by simp)).trans (by simp)
 have q4:W1.cell? ⟨w.heap.size+1,3,none⟩=some (.int .i64 0):=(hb1.cell (p:=⟨w.heap.size+1,3,none⟩) (by simp)).trans (by simp)
 have f1: ∀j,W1.frozen? ⟨w.heap.size+1,j,none⟩=false:=fun j=>(hb1.frozen (p:=⟨w.heap.size+1,j,none⟩) (by simp)).trans (by simp)
 have f10:=f1 0
 have f11:=f1 1
 have f12:=f1 2
 have f13:=f1 3
 have HB:Hid (Below w.heap.size w W1):=(((Below.refl _ w).alloc (Nat.le_refl _) _).alloc (by simp) _).trans (hb1.mono (by omega))
 clear hb1 f1
 have hcase:(∃h:k+x.size<s.size,isWord s[k+x.size]=false)∨ ¬k+x.size<s.size:=by
  by_cases hlt:k+x.size<s.size
  ·exact .inl ⟨hlt,by have:=HW.out;unfold bs at this;rw [jk1 s _ hlt] at this;exact this⟩
  ·exact .inr hlt
 rcases hcase with ⟨hlt,hp⟩|hlt
 all_goals
  go_enter Tryd.func85,Tryd.ntmps85
  go_wp2_with fail
  refine (end_number _ s _ k hs hk (by simp)).mono ?_
  rintro e w' ⟨rfl,rfl⟩
  rw [Hn.out]
  go_wp2_with (go_at_call 100;refine (jv7 _ _).mono ?_;rintro e w' ⟨rfl,rfl⟩)
  go_loop [6,38,8] (fun v i d=> ∃j:Nat,j≤x.size∧i= .int .i64 j∧v= .int .i64 (valFrom 0 ((bs x).take j):Nat)) (fun _ i _=>x.size-(intOf i).toNat)
  case atStart=>exact ⟨0,Nat.zero_le _,rfl,rfl⟩
  case round=>
   obtain ⟨j,hj,rfl,rfl⟩:=hrel
   by_cases hjl:j<x.size
   ·have hd:isDigit x[j]=true:=Hdig.out _ (List.getElem_mem (l:=bs x) (by rw [jx7];exact hjl))
    have hv:valFrom 0 ((bs x).take j)<1000000000000:=valFrom_small _ (fun c hc=>Hdig.out c (List.mem_of_mem_take hc)) (by rw [List.length_take,jx7];omega)
    have HV:Hid (valFrom 0 ((bs x).take (j+1))=10*valFrom 0 ((bs x).take j)+(x[j].toNat-48)):=by
     rw [take_snoc x j hjl];exact valFrom_snoc _ _ _
    have hcell:=Hc1.out j hjl
    generalize hvv:valFrom 0 ((bs x).take j)=v at*
    have hd1:(48:Int)≤x[j].toNat:=by unfold isDigit at hd;simp at hd;omega
    have hd2:(x[j].toNat:Int)≤57:=by unfold isDigit at hd;simp at hd;omega
    clear hd hvv
    go_wp2_with fail
    go_round
    case rel=>exact ⟨j+1,by omega,by go_num,by rw [HV.out];go_num⟩
    case measure=>simp [intOf];omega
   ·have hjx:j=x.size:=by omega
    have HT:=Lib.hid (show (bs x).take j=bs x from List.take_of_length_le (by rw [jx7];omega))
    clear hjx
    go_wp2_with fail
    rw [HT.out]
    refine bodyPost_ret (v:= .agg #[.int .i64 2,.string x,.int .i64 (valFrom 0 (bs x):Nat),.int .i64 k]) (by simp [results,Tryd.results85,go_sem,jv5,q1,q2,q3,q4]) rfl ⟨rfl,?_⟩
    have:=HB.out
    go_grown
end Go.Proofs.YtfaflipphkoiiaaDoor.Lx
namespace Go.Proofs.YtfaflipphkoiiaaDoor.Lx
open Go.RowKit
theorem number_no (s:ByteArray) (k n:Nat) (w:World) (hs:s.size≤9223372036854775807) (hk:k≤s.size) (hn:numLen ((bs s).drop k)=n)
  (hw:12<n∨wordAt ((bs s).drop (k+n))=true):
  Calls Tryd.prog 85 #[.string s,.int .i64 (k:Int)] w fun e w'=>e= .panicked (fail_ 5 k)∧Below w.heap.size w w':=by
 have hl:=kq8 ((bs s).drop k)
 rw [List.length_drop,jx7,hn] at hl
 have hmf:=mkFunc
 have Hn:=Lib.hid hn;clear hn
 have hcase:(12<n)∨(n≤12∧ ∃h:k+n<s.size,isWord s[k+n]=true):=by
  by_cases h12:12<n
  ·exact .inl h12
  ·refine .inr ⟨by omega,?_⟩
   have hw':=hw.resolve_left h12
   have hlt:k+n<s.size:=by
    rcases Nat.lt_or_ge (k+n) s.size with h|h
    ·exact h
    ·unfold bs at hw';rw [kz4 s _ h] at hw';simp [wordAt] at hw'
   refine ⟨hlt,?_⟩
   unfold bs at hw';rw [jk1 s _ hlt] at hw';exact hw'
 clear hw
 rcases hcase with h12|⟨h12,hlt,hp⟩
 all_goals
  go_enter Tryd.func85,Tryd.ntmps85
  go_wp2_with fail
  refine (end_number _ s _ k hs hk (by simp)).mono ?_
  rintro e w' ⟨rfl,rfl⟩
  rw [Hn.out]
  go_wp2_with (go_at_call 100;refine (jv7 _ _).mono ?_;rintro e w' ⟨rfl,rfl⟩)
  exact ⟨rfl,rfl,by go_grown⟩
theorem afterGaps_any (s:ByteArray) (k:Nat) (w:World) (hs:s.size≤9223372036854775807) (hk:k≤s.size):
  Calls Tryd.prog 54 #[.string s,.int .i64 (k:Int)] w fun e w'=>
   e= .returned (.int .i64 ((k+gapLen false ((bs s).drop k):Nat):Int))∧Below w.heap.size w w':=by
 have hmf:=mkFunc
 obtain ⟨R,hR⟩: ∃R,k+gapLen false ((bs s).drop k)=R:=⟨_,rfl⟩
 rw [hR]
 have HR:=Lib.hid hR;clear hR
 go_enter Tryd.func54,Tryd.ntmps54
 go_wp2_with fail
 go_loop [1] (fun i=> ∃j:Nat,j≤s.size∧Hid (j+gapLen false ((bs s).drop j)=R)∧i= .int .i64 j) (fun i=>s.size-(intOf i).toNat)
 case atStart=>exact ⟨k,hk,HR,rfl⟩
 case round=>
  obtain ⟨j,hj,HJ,rfl⟩:=hrel
  by_cases hlt:j<s.size
  ·have hd:(bs s).drop j=s[j]::(bs s).drop (j+1):=jk1 s j hlt
   have HD:=Lib.hid hd;clear hd
   by_cases h32:s[j].toNat=32∨s[j].toNat=9∨s[j].toNat=10
   ·have HN:Hid (j+1+gapLen false ((bs s).drop (j+1))=R):=by
     have:=HJ.out;rw [HD.out,gapLen_blank _ _ h32] at this;show _=_;omega
    rcases h32 with h|h|h
    ·have b1:((s[j].toNat:Int)==32)=true:=beq_iff_eq.2 (by omega)
     clear h
     go_wp2_with fail
     go_round
     case rel=>exact ⟨j+1,by omega,HN,by go_num⟩
     case measure=>simp [intOf];omega
    ·have b1:((s[j].toNat:Int)==32)=false:=beq_eq_false_iff_ne.2 (by omega)
     have b2:((s[j].toNat:Int)==9)=true:=beq_iff_eq.2 (by omega)
     clear h
     go_wp2_with fail
     go_round
     case rel=>exact ⟨j+1,by omega,HN,by go_num⟩
     case measure=>simp [intOf];omega
    ·have b1:((s[j].toNat:Int)==32)=false:=beq_eq_false_iff_ne.2 (by omega)
     have b2:((s[j].toNat:Int)==9)=false:=beq_eq_false_iff_ne.2 (by omega)
     have b3:((s[j].toNat:Int)==10)=true:=beq_iff_eq.2 (by omega)
     clear h
     go_wp2_with fail
     go_round
     case rel=>exact ⟨j+1,by omega,HN,by go_num⟩
     case measure=>simp [intOf];omega
   ·have b1:((s[j].toNat:Int)==32)=false:=beq_eq_false_iff_ne.2 (by omega)
    have b2:((s[j].toNat:Int)==9)=false:=beq_eq_false_iff_ne.2 (by omega)
    have b3:((s[j].toNat:Int)==10)=false:=beq_eq_false_iff_ne.2 (by omega)
    by_cases h35:s[j].toNat=35
    ·have b4:((s[j].toNat:Int)==35)=true:=beq_iff_eq.2 (by omega)
     have hcl:comLen ((bs s).drop j)≤s.size-j:=by have:=comLen_le ((bs s).drop j);rwa [List.length_drop,jx7] at this
     have hc1:1≤comLen ((bs s).drop j):=by rw [HD.out];simp [comLen,h35]
     have HN:Hid (j+comLen ((bs s).drop j)+gapLen false ((bs s).drop (j+comLen ((bs s).drop j)))=R):=by
      have:=HJ.out;rw [HD.out,gapLen_hash _ _ h35,←HD.out,List.drop_drop] at this;show _=_;omega
     clear h32 h35
     go_wp2_with fail
     refine (end_gaps _ s _ j hs (by omega) (by simp)).mono ?_
     rintro e w' ⟨rfl,rfl⟩
     generalize comLen ((bs s).drop j)=c at*
     go_wp2_with fail
     go_round
     case rel=>exact ⟨j+c,by omega,HN,by go_num⟩
     case measure=>simp [intOf];omega
    ·have b4:((s[j].toNat:Int)==35)=false:=beq_eq_false_iff_ne.2 (by omega)
     have HN:Hid (j=R):=by
      have:=HJ.out;rw [HD.out,gapLen_other _ _ (by omega) (by omega) (by omega) (by omega)] at this;exact this
     clear h32 h35
     go_wp2_with fail
     go_ret
     exact ⟨ret_int (congrArg (fun n:Nat=>(n:Int)) HN.out),by go_grown⟩
  ·have HN:Hid (j=R):=by
    have:=HJ.out;unfold bs at this;rw [kz4 s j (by omega),gapLen_nil] at this;exact this
   go_wp2_with fail
   go_ret
   exact ⟨ret_int (congrArg (fun n:Nat=>(n:Int)) HN.out),by go_grown⟩
end Go.Proofs.YtfaflipphkoiiaaDoor.Lx
