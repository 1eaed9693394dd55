/-
  The law's text behind the first line feed.
-/
import Derived.Test.YtfficindoecpfaaGreatDoorPriLinesT
import Derived.Test.YtfficindoecpfaaGreatDoorPkPriF
set_option maxHeartbeats 64000000
set_option maxRecDepth 100000
namespace Go.Proofs.YtfficindoecpfaaGreatDoor.Pt
open Go.RowKit Mem Vw
set_option linter.unusedVariables false
set_option linter.unusedSimpArgs false
theorem aft_at: ∀(y:Rs.Bytes) (j:Nat) (h:j<y.length),(∀q (hq:q<y.length),q<j→y[q]≠10)→y[j]=10→aft y=y.drop (j+1)
 |c::y,0,h,h1,h2=>by
  have h2:c=10:=h2
  show (if c=10 then y else aft y)=y
  rw [if_pos h2]
 |c::y,j+1,h,h1,h2=>by
  have h3:c≠10:=h1 0 (by simp) (by omega)
  show (if c=10 then y else aft y)=y.drop (j+1)
  rw [if_neg h3]
  exact aft_at y j (by simpa using h) (fun q hq hj=>h1 (q+1) (by simpa using hq) (by omega)) h2
theorem aft_none: ∀(y:Rs.Bytes),(∀q (hq:q<y.length),y[q]≠10)→aft y= []
 | [],_=>rfl
 |c::y,h=>by
  show (if c=10 then y else aft y)= []
  rw [if_neg (show ¬c=10 from h 0 (by simp))]
  exact aft_none y (fun q hq=>h (q+1) (by simpa using hq))
theorem run_cut (y:Rs.Bytes) (j:Nat) (h:j<y.length) (hy:y.length≤20000) (W:World):
  (Instr.slice 9 (.string ⟨y.toArray⟩) (some (.int .i64 ((j:Int)+1))) none none).run Tryz.prog W= .ok (.string ⟨(y.drop (j+1)).toArray⟩) W:=by
 have e:((⟨y.toArray⟩:ByteArray).extract (j+1) y.length)=⟨(y.drop (j+1)).toArray⟩:=by
  apply ByteArray.ext
  apply Array.toList_inj.1
  rw [Lib.extract_data]
  show (y.drop (j+1)).take (y.length-(j+1))=_
  rw [List.take_of_length_le (by rw [List.length_drop];omega)]
 have h1:=run_slice_string_from_if (P:=Tryz.prog) W 9 ⟨y.toArray⟩ .i64 ((j:Int)+1) Tryz.underlying9
 have hs:((⟨y.toArray⟩:ByteArray).size:Int)=(y.length:Int):=rfl
 rw [if_pos ⟨by omega,by rw [hs];omega⟩] at h1
 rw [h1,←e]
 rfl
theorem after_any (y:Rs.Bytes) (hy:y.length≤20000) (w:World):
  Calls Tryz.prog 16 #[.string ⟨y.toArray⟩] w fun e w'=>e= .returned (.string ⟨(aft y).toArray⟩)∧w'=w:=by
 have hyl:(y.length:Int)≤20000:=by omega
 go_enter Tryz.func16,Tryz.ntmps16
 go_wp2_with fail
 go_loopw [3] (fun i wr=> ∃j:Nat,i= .int .i64 j∧j≤y.length∧Hid (∀q (hq:q<y.length),q<j→y[q]≠10)∧wr=w) (fun i _=>y.length-(intOf i).toNat)
 case atStart=>exact ⟨0,rfl,Nat.zero_le _,hdd fun q _ h=>absurd h (Nat.not_lt_zero _),rfl⟩
 case round=>
  obtain ⟨j,rfl,hj,HA,rfl⟩:=hrel
  have j1:(0:Int)≤(j:Int):=Int.natCast_nonneg _
  by_cases hlt:j<y.length
  ·have j2:(j:Int)<(y.length:Int):=by omega
   have j3:IntKind.i64.wrap ((j:Int)+1)=(j:Int)+1:=Go.IntWalk.i64_in _ (by omega)
   have HLT:Hid (j<y.length):=hlt
   by_cases c10:y[j].toNat=10
   ·have q10:((((⟨y.toArray⟩:ByteArray)[j]'hlt).toNat:Int)==10)=true:=by show (((y[j]'hlt).toNat:Int)==10)=true;exact beq_iff_eq.2 (by omega)
    have p10:(((⟨y.toArray⟩:ByteArray)[j]'hlt).toNat:Int)=10:=by show ((y[j]'hlt).toNat:Int)=10;omega
    have hcut:=run_cut y j hlt hy
    have HV:Hid (aft y=y.drop (j+1)):=aft_at y j hlt HA.out (UInt8.toNat_inj.1 c10)
    clear c10
    go_wp2_with fail
    go_ret
    rw [HV.out]
    exact ⟨rfl,rfl⟩
   ·have q10:((((⟨y.toArray⟩:ByteArray)[j]'hlt).toNat:Int)==10)=false:=by show (((y[j]'hlt).toNat:Int)==10)=false;exact beq_eq_false_iff_ne.2 (by omega)
    have p10: ¬(((⟨y.toArray⟩:ByteArray)[j]'hlt).toNat:Int)=10:=by show ¬((y[j]'hlt).toNat:Int)=10;omega
    have HN:Hid (∀q (hq:q<y.length),q<j+1→y[q]≠10):=fun q hq h=>by
     by_cases e:q=j
     ·subst e;exact fun e2=>c10 (congrArg UInt8.toNat e2)
     ·exact HA.out q hq (by omega)
    clear c10
    go_wp2_with fail
    go_roundw
    case rel=>exact ⟨j+1,by go_num,HLT.out,HN,by trivial⟩
    case measure=>have:=HLT.out;simp [intOf];omega
  ·obtain rfl:j=y.length:=by omega
   have HV:Hid (aft y= []):=aft_none y (fun q hq=>HA.out q hq hq)
   go_wp2_with fail
   go_ret
   rw [HV.out]
   exact ⟨rfl,rfl⟩
end Go.Proofs.YtfficindoecpfaaGreatDoor.Pt
