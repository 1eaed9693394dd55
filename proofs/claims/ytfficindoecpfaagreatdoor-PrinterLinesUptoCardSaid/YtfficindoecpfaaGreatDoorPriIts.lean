/-
  Items that are an argument, of bounded bulk.
-/
import Derived.Test.YtfficindoecpfaaGreatDoorPkPriE
set_option maxHeartbeats 64000000
set_option maxRecDepth 100000
namespace Go.Proofs.YtfficindoecpfaaGreatDoor.Pt
open Go.ChangeShapes Go.WideShapes Go.RowKit Mem Vw
open Ic (RowB DT Lay LayL tsz)
set_option linter.unusedVariables false
structure ItsIn (W:World) (l:List DT) (si:Value):Prop where
 lay:LayL (fun g=>g<W.heap.size) W l si
 bk: ∀y∈l,Bk y
 size:tsz l≤1048576
theorem SrcIn.its {W:World} {x:Ic.Src} {l:List DT} {si:Value} (h:SrcIn W x l si):ItsIn W l si:=⟨h.lay,h.bk,h.size⟩
theorem ItsIn.src {W:World} {l:List DT} {si:Value} (h:ItsIn W l si) (x:Ic.Src) (hx:x.name.length≤1048576):SrcIn W {x with items:=l.map DT.tree} l si:=⟨h.lay,rfl,h.bk,h.size,hx⟩
theorem ItsIn.fr {W W':World} {l:List DT} {iv:Value} (h:ItsIn W l iv) (hf:Fr (fun _=>False) W W'):ItsIn W' l iv:=⟨(h.lay.fr hf (fun _ _ e=>e)).mono (fun g hg _=>hg),h.bk,h.size⟩
section
variable {H:Type} {enc:TypeId×Value→H} {W:World} {base:Nat} {spare:Nat→Bool} {held:Bool}
theorem open_items {b0:Nat} {r:Reach} {v:Value} {d:DataW H} {p:List MemPlace} (hv:Value.okWide Tryz.prog W r b0 24 v) (h:DataW.Trod enc Tryz.prog W base spare held 24 v d p) (hw:Rows.uptoBulk d≤1048576): ∃l,ItsIn W l v:=by
 obtain ⟨a,n,c,rfl⟩:=okWide_slice Tryz.underlying24 hv
 obtain ⟨m,hm⟩:=h
 obtain ⟨l,g1,g2,g3⟩:=bk_trees m (.slice a n c) (d,p) hm hw
 have g3:tsz l+1≤Rows.uptoBulk d:=g3
 exact ⟨l,g1.mono (fun g hg _=>hg),g2,by omega⟩
end
end Go.Proofs.YtfficindoecpfaaGreatDoor.Pt
