/-
  What the functions Items and Same of package estoppelref07 return for trees that differ at most in their offsets.
-/
import Derived.Test.YtfaflipphkoiiaaDoorParEq
set_option maxHeartbeats 64000000
set_option maxRecDepth 100000
set_option linter.unusedVariables false
namespace Go.Proofs.YtfaflipphkoiiaaDoor.Pr
open Go.RowKit Mem
open Lx (Tok bs jx7)
theorem items_nil (at_:Bool) (w:World):Calls Tryd.prog 18 #[nil,nil,.bool at_] w fun e w'=>e= .returned (.bool true)∧Below w.heap.size w w':=
 items_any at_ [] [] nil nil w rfl (fun i h=>by simp at h) (Row.nil w 33) (Row.nil w 33)
theorem inner_eq (at_:Bool) (l l':List Flat) (va vb:Value) (w:World) (h:All2 (EqF at_) l l') (hv:VInner w l va) (hv':VInner w l' vb):
  Calls Tryd.prog 18 #[va,vb,.bool at_] w fun e w'=>e= .returned (.bool true)∧Below w.heap.size w w':=by
 obtain ⟨vs,hl,hr,hf⟩:=hv
 obtain ⟨vs',hl',hr',hf'⟩:=hv'
 refine items_any at_ ((l.zip vs).map fun p=>(p.1,p.2.1,p.2.2.1,p.2.2.2,nil)) ((l'.zip vs').map fun p=>(p.1,p.2.1,p.2.2.1,p.2.2.2,nil)) va vb w (by rw [List.length_map,List.length_map,jk5 hl,jk5 hl',h.len]) ?_ (by rw [List.map_map];exact hr) (by rw [List.map_map];exact hr')
 intro i h1 h2
 have i1:i<(l.zip vs).length:=by simpa using h1
 have i2:i<(l'.zip vs').length:=by simpa using h2
 rw [List.getElem_map,List.getElem_map]
 have m1:=hf _ (List.getElem_mem i1)
 have m2:=hf' _ (List.getElem_mem i2)
 have e:=h.at i (by rw [←jk5 hl];exact i1) (by rw [←jk5 hl'];exact i2)
 rw [List.getElem_zip] at m1 m2 ⊢
 rw [List.getElem_zip]
 exact ⟨e,m1,m2,⟨_,_,_,rfl⟩,⟨_,_,_,rfl⟩,fun W' _=>items_nil at_ W'⟩
theorem items_eq (at_:Bool) (l l':List Item) (va vb:Value) (w:World) (h:All2 (EqI at_) l l') (hv:VItems w l va) (hv':VItems w l' vb):
  Calls Tryd.prog 18 #[va,vb,.bool at_] w fun e w'=>e= .returned (.bool true)∧Below w.heap.size w w':=by
 obtain ⟨vs,hl,hr,hf⟩:=hv
 obtain ⟨vs',hl',hr',hf'⟩:=hv'
 refine items_any at_ ((l.zip vs).map fun p=>(p.1.flat,p.2.1,p.2.2.1,p.2.2.2.1,p.2.2.2.2)) ((l'.zip vs').map fun p=>(p.1.flat,p.2.1,p.2.2.1,p.2.2.2.1,p.2.2.2.2)) va vb w (by rw [List.length_map,List.length_map,jk5 hl,jk5 hl',h.len]) ?_ (by rw [List.map_map];exact hr) (by rw [List.map_map];exact hr')
 intro i h1 h2
 have i1:i<(l.zip vs).length:=by simpa using h1
 have i2:i<(l'.zip vs').length:=by simpa using h2
 rw [List.getElem_map,List.getElem_map]
 have m1:=hf _ (List.getElem_mem i1)
 have m2:=hf' _ (List.getElem_mem i2)
 have e:=h.at i (by rw [←jk5 hl];exact i1) (by rw [←jk5 hl'];exact i2)
 rw [List.getElem_zip] at m1 m2 ⊢
 rw [List.getElem_zip]
 refine ⟨e.1,m1.1,m2.1,m1.2.form,m2.2.form,fun W' hb=>?_⟩
 exact inner_eq at_ _ _ _ _ W' e.2 (m1.2.below hb) (m2.2.below hb)
theorem eq_civil (d e f:Int) (W:World):(binOp .eql 24 (.agg #[.int .i64 d,.int .i64 e,.int .i64 f]) (.agg #[.int .i64 d,.int .i64 e,.int .i64 f])).run Tryd.prog W= .ok (.bool true) W:=by
 go_simp
theorem VItems.take {W:World} {l:List Item} {A:Option Addr} {n cap:Nat} (h:VItems W l (.slice A n cap)) (i:Nat) (hi:i≤l.length):VItems W (l.take i) (.slice A i cap):=by
 obtain ⟨vs,hl,⟨A',cap',e,hc,hr⟩,hf⟩:=h
 injection e with e1 e2 e3
 subst e1 e3
 rw [List.length_map,jk5 hl] at hc
 have hz:(l.take i).zip (vs.take i)=(l.zip vs).take i:=by rw [List.zip_eq_zipWith,List.zip_eq_zipWith,List.take_zipWith]
 have hlen:((l.zip vs).take i).length=i:=by rw [List.length_take,jk5 hl];omega
 refine ⟨vs.take i,by simp [hl],⟨A,cap,?_,?_,?_⟩,?_⟩
 ·rw [List.length_map,hz,hlen]
 ·rw [List.length_map,hz,hlen];omega
 ·rcases hr with hr|⟨g,o,hA,hg,hr⟩
  ·left;rw [hz];rw [List.map_eq_nil_iff] at hr ⊢;rw [hr,List.take_nil]
  ·right
   refine ⟨g,o,hA,hg,fun k x hx=>hr k x ?_⟩
   rw [hz,List.map_take,List.getElem?_take] at hx
   split at hx
   ·exact hx
   ·cases hx
 ·intro p hp
  rw [hz] at hp
  exact hf p (List.mem_of_mem_take hp)
theorem same_true (at_:Bool) (a b:Source) (va vb:Value) (w:World) (h1:b.name=a.name) (h2:b.frm=a.frm) (h3:b.days=a.days) (h4:All2 (EqI at_) a.items b.items) (hv:VItems w a.items va) (hv':VItems w b.items vb):
  Calls Tryd.prog 13 #[.agg (srcells a.name a.frm a.days va).toArray,.agg (srcells b.name b.frm b.days vb).toArray,.bool at_] w fun e w'=>e= .returned (.bool true)∧Below w.heap.size w w':=by
 rw [h1,h2,h3]
 clear h1 h2 h3
 have H4:=hdd h4;clear h4
 obtain ⟨A,n,c,rfl⟩:=hv.slice
 obtain ⟨B,m,d,rfl⟩:=hv'.slice
 have HB2:Hid (Below w.heap.size w ((w.alloc (.cells (srcells a.name a.frm a.days (.slice A n c)).toArray 27)).alloc (.cells (srcells a.name a.frm a.days (.slice B m d)).toArray 27))):=(((Below.refl _ w).alloc (Nat.le_refl _) _).alloc (by simp) _)
 have HI1:Hid (SB w.heap.size a.name a.frm a.days (.slice A n c) ((w.alloc (.cells (srcells a.name a.frm a.days (.slice A n c)).toArray 27)).alloc (.cells (srcells a.name a.frm a.days (.slice B m d)).toArray 27))):=jq9 (jq5 rfl) _
 have HI2:Hid (SB (w.heap.size+1) a.name a.frm a.days (.slice B m d) ((w.alloc (.cells (srcells a.name a.frm a.days (.slice A n c)).toArray 27)).alloc (.cells (srcells a.name a.frm a.days (.slice B m d)).toArray 27))):=jq5 (by simp)
 have HV:=hdd (hv.below HB2.o)
 have HV':=hdd (hv'.below HB2.o)
 clear hv hv'
 go_enter Tryd.func13,Tryd.ntmps13
 go_upto_region 1 with fail
 generalize ((w.alloc (.cells (srcells a.name a.frm a.days (.slice A n c)).toArray 27)).alloc (.cells (srcells a.name a.frm a.days (.slice B m d)).toArray 27))=u at*
 have x0:u.cell? ⟨w.heap.size,0,none⟩=some (.string ⟨a.name.toArray⟩):=jq0 HI1.o 0
 have y0:u.cell? ⟨w.heap.size+1,0,none⟩=some (.string ⟨a.name.toArray⟩):=jq0 HI2.o 0
 have x1:u.cell? ⟨w.heap.size,1,none⟩=some (.int .i64 (a.frm.y:Int)):=jq0 HI1.o 1
 have y1:u.cell? ⟨w.heap.size+1,1,none⟩=some (.int .i64 (a.frm.y:Int)):=jq0 HI2.o 1
 have x2:u.cell? ⟨w.heap.size,2,none⟩=some (.int .i64 (a.frm.m:Int)):=jq0 HI1.o 2
 have y2:u.cell? ⟨w.heap.size+1,2,none⟩=some (.int .i64 (a.frm.m:Int)):=jq0 HI2.o 2
 have x3:u.cell? ⟨w.heap.size,3,none⟩=some (.int .i64 (a.frm.d:Int)):=jq0 HI1.o 3
 have y3:u.cell? ⟨w.heap.size+1,3,none⟩=some (.int .i64 (a.frm.d:Int)):=jq0 HI2.o 3
 have x4:u.cell? ⟨w.heap.size,4,none⟩=some (.int .i64 (a.days:Int)):=jq0 HI1.o 4
 have y4:u.cell? ⟨w.heap.size+1,4,none⟩=some (.int .i64 (a.days:Int)):=jq0 HI2.o 4
 have x5:u.cell? ⟨w.heap.size,5,none⟩=some (.slice A n c):=jq0 HI1.o 5
 have y5:u.cell? ⟨w.heap.size+1,5,none⟩=some (.slice B m d):=jq0 HI2.o 5
 have hq:=eq_civil (a.frm.y:Int) (a.frm.m:Int) (a.frm.d:Int)
 clear HI1 HI2
 go_wp2_with fail
 refine (items_eq at_ a.items b.items _ _ u H4.o HV.o HV'.o).mono ?_
 rintro e w3 ⟨rfl,hb3⟩
 have HB3:Hid (Below w.heap.size w w3):=HB2.o.trans (hb3.mono HB2.o.size)
 clear hb3
 go_wp2_with fail
 go_ret
 exact ⟨rfl,HB3.o⟩
end Go.Proofs.YtfaflipphkoiiaaDoor.Pr
