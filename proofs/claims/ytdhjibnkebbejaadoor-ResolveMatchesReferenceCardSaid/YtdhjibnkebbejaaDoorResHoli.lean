/-
  What the resolver's method holiday returns.
-/
import Derived.Test.YtdhjibnkebbejaaDoorResDate
import Derived.Test.YtdhjibnkebbejaaDoorResUnit
namespace Go.Proofs.YtdhjibnkebbejaaDoor.Rs
open Go.RowKit Mem Vw Go.ChangeMaps
set_option linter.unusedVariables false
set_option linter.unusedSimpArgs false

/-- The holidays up to now, in memory. -/
structure HS (q hm : Nat) (l : List Int) (W : World) : Prop where
  qc : W.cell? ⟨q, 25, none⟩ = some (.map (some hm))
  mb : W.heap[hm]? = some (.map (hents l) l.length)
  ne : hm ≠ q
theorem HS.fr {S : Nat → Prop} {q hm : Nat} {l : List Int} {W W' : World} (h : HS q hm l W) (hf : Fr S W W') (hS : ∀ k, S k → q < k ∧ hm < k) : HS q hm l W' :=
  ⟨(World.cell?_of_block (a := ⟨q, 25, none⟩) (hf.block q (lt_of_cell h.qc) (fun hs => by have := hS _ hs; omega))).trans h.qc, hf.blk h.mb (fun hs => by have := hS _ hs; omega), h.ne⟩
/-- What an item adds to the holidays, and its error. -/
def holiL (l : List Int) (x : Item) : List Int × Int :=
  if x.dates.any (fun c => (number c).isNone) then (l, 2) else ((x.dates.filterMap number).foldl hput l, if ((x.dates.filterMap number).foldl hput l).length > 400 then 3 else 0)
theorem holiday_eq (s : Sy) (x : Item) : holiday s x = ({ s with hol := (holiL s.hol x).1 }, (holiL s.hol x).2) := by
  unfold holiday holiL
  split <;> rfl
theorem IB.fr {S : Nat → Prop} {p : Nat} {f : Item} {s : Sl} {W W' : World} (h : IB p f s W) (hf : Fr S W W') (hS : ∀ k, S k → k ≠ p) : IB p f s W' := hf.blk h (fun hs => hS _ hs rfl)
def dval (c : Civil) : List Value := [.int .i64 c.y, .int .i64 c.m, .int .i64 c.d]
theorem len_map {P : Program} {t k e ty : TypeId} (ht : P.underlying t = some (.map k e)) {b : Nat} {es : Array MapEntry} {clock : Nat} {w : World} (hb : w.heap[b]? = some (.map es clock)) :
    (Builtin.len_ #[t] ty #[.map (some b)]).run P w = .ok (.int .i64 (es.size : Int)) w := by
  simp [Builtin.len_, run_underlying ht, MapKept.run_getObj_map hb, goInt, Result.andThen]
/-- What the first loop holds. -/
def H1 (x : Item) (s : Sl) (w0 : World) (i : Value) (wr : World) : Prop :=
  ∃ k : Nat, i = .int .i64 (k : Int) ∧ k ≤ x.dates.length ∧ (x.dates.take k).any (fun c => (number c).isNone) = false ∧ IB w0.heap.size x s wr ∧ Fr (fun _ => False) w0 wr
/-- What the second loop holds. -/
def H2 (q hm : Nat) (l : List Int) (x : Item) (s : Sl) (w0 : World) (i : Value) (wr : World) : Prop :=
  ∃ k : Nat, i = .int .i64 (k : Int) ∧ k ≤ x.dates.length ∧ HS q hm (((x.dates.take k).filterMap number).foldl hput l) wr ∧ IB w0.heap.size x s wr ∧ Fr (fun k => k = hm) w0 wr
/-- The place of an element of a slice of dates. -/
theorem dates_at {Wa wr : World} {v : Value} {l : List Civil} (h : Row Wa v 3 (l.map civilc)) (hb : Below Wa.heap.size Wa wr) {k : Nat} (hk : k < l.length) {A : Option Addr} {n c : Nat} (hv : v = .slice A n c) :
    ∃ g o, A = some ⟨g, o, none⟩ ∧ wr.cell? ⟨g, o + k * 3, none⟩ = some (.int .i64 l[k].y) ∧ wr.cell? ⟨g, o + k * 3 + 1, none⟩ = some (.int .i64 l[k].m) ∧ wr.cell? ⟨g, o + k * 3 + 2, none⟩ = some (.int .i64 l[k].d) := by
  obtain ⟨g, o, cap, hs1, hgl, _, _, hat⟩ := (h.below hb).at (by intro e; rw [List.map_eq_nil_iff] at e; rw [e] at hk; simp at hk)
  rw [hs1] at hv
  injection hv with h1 h2 h3
  have := hat k (civilc l[k]) (by simp [List.getElem?_eq_getElem hk])
  exact ⟨g, o, h1.symm, this.cell 0 rfl, this.cell 1 rfl, this.cell 2 rfl⟩
set_option maxRecDepth 100000 in
set_option maxHeartbeats 4000000 in
theorem holiday_any (q hm : Nat) (lh : List Int) (x : Item) (s : Sl) (W Wa : World) (h : HS q hm lh W) (hrow : Row Wa s.2.1 3 (x.dates.map civilc)) (hba : Below Wa.heap.size Wa W) (hbf : Bf Wa) (hq : Wa.heap.size ≤ q) (hqm : Wa.heap.size ≤ hm) (hok : ∀ c ∈ x.dates, CivilOk c) :
    Calls Tryd.prog 44 #[.pointer (some ⟨q, 0, none⟩), .agg (ic (x, s)).toArray] W fun e w' => e = .returned (.int .i64 (holiL lh x).2) ∧ HS q hm (holiL lh x).1 w' ∧ Fr (fun k => k = hm) W w' := by
  have hqW : q < W.heap.size := lt_of_cell h.qc
  have hmW : hm < W.heap.size := lt_of_blk h.mb
  obtain ⟨u0, HU⟩ : ∃ u0, Hid (W.alloc (.cells (ic (x, s)).toArray 55) = u0) := ⟨_, rfl⟩
  have HI : Hid (IB W.heap.size x s u0) := by rw [← HU.out]; exact blk_newn rfl
  have HF : Hid (Fr (fun _ => False) W u0) := by rw [← HU.out]; exact (Fr.refl _ W).alloc _
  obtain ⟨Ac, cc, hsc, hcc1, hcc2⟩ := hrow.slice
  rw [List.length_map] at hsc hcc1
  have hnl : x.dates.length ≤ 9223372036854775807 := by omega
  have j30 : u0.cell? ⟨W.heap.size, 30, none⟩ = some s.2.1 := cell_of_blk HI.out 30
  rw [hsc] at j30
  have HSC := Lib.hid hsc
  have HH := Lib.hid h; have HROW := Lib.hid hrow; have HBA := Lib.hid hba; have HBF := Lib.hid hbf; have HOK := Lib.hid hok
  clear h hrow hba hbf hok hsc
  have BW : ∀ wr : World, Fr (fun k => k = hm) W wr → Below Wa.heap.size Wa wr := fun wr hf => HBA.out.trans (hf.below HBA.out.size (fun j hj => by omega))
  have BF : ∀ wr : World, Below Wa.heap.size Wa wr → Bf wr := fun wr hb => ⟨Nat.lt_of_lt_of_le HBF.out.1 hb.size, fun i y hy => (hb.cell (p := ⟨0, i, none⟩) HBF.out.1).trans (HBF.out.2 i y hy)⟩
  have HBW := Lib.hid BW; have HBB := Lib.hid BF; clear BW BF
  go_enter Tryd.func44, Tryd.ntmps44
  go_upto_region 1 with fail
  rw [HU.out]
  clear HU
  go_wp2_with fail
  go_loopw [16] (fun i wr => H1 x s W i wr) (fun i wr => x.dates.length - (intOf i).toNat)
  case atStart => exact ⟨0, rfl, Nat.zero_le _, rfl, HI.out, HF.out⟩
  case round =>
    clear j30 HI HF
    obtain ⟨k, rfl, hk, ha, hi, hf⟩ := hrel
    have HA := Lib.hid ha; have HI := Lib.hid hi; have HF := Lib.hid hf
    have HF2 : Hid (Fr (fun k => k = hm) W wr) := hf.mono (fun _ _ h => h.elim)
    clear ha hi
    by_cases hlt : k < x.dates.length
    · obtain ⟨g, o, rfl, e0, e1, e2⟩ := dates_at HROW.out (HBW.out _ HF2.out) hlt HSC.out
      have i1 : (0 : Int) ≤ (k : Int) := Int.natCast_nonneg _
      have i2 : (k : Int) < (x.dates.length : Int) := by omega
      have hsz : W.heap.size ≤ wr.heap.size := hf.size
      have HF3 : Hid (Fr (fun _ => False) W (wr.alloc (.cells #[.int .i64 x.dates[k].y, .int .i64 x.dates[k].m, .int .i64 x.dates[k].d] 23))) := hf.alloc _
      clear hf
      have hck : CivilOk x.dates[k] := HOK.out _ (List.getElem_mem hlt)
      have HCK := Lib.hid hck; clear hck
      go_wp2_with fail
      refine (Number_any x.dates[k] _ HCK.out (HBB.out _ (HBW.out _ (HF3.out.mono (fun _ _ h => h.elim))))).mono ?_
      rintro e w1 ⟨rfl, hF1⟩
      have HF4 := Lib.hid (HF3.out.trans hF1)
      have HI4 : Hid (IB W.heap.size x s w1) := hF1.blk (blk_alloc HI.out _) (fun h => h)
      clear hF1
      have ht : x.dates.take (k + 1) = x.dates.take k ++ [x.dates[k]] := by rw [List.take_succ_eq_append_getElem hlt]
      cases hn : number x.dates[k] with
      | none =>
        rw [numv_no hn]
        have HR : Hid (holiL lh x = (lh, 2)) := by
          show _ = _
          unfold holiL
          rw [if_pos]
          rw [List.any_eq_true]
          exact ⟨_, List.getElem_mem hlt, by rw [hn]; rfl⟩
        clear ht hn
        dsimp only [nv]
        go_wp2_with fail
        go_ret
        rw [HR.out]
        exact ⟨rfl, HH.out.fr HF4.out (fun _ h => h.elim), HF4.out.mono (fun _ _ h => h.elim)⟩
      | some n =>
        rw [numv_yes hn]
        have HN : Hid (H1 x s W (.int .i64 ((k : Int) + 1)) w1) := by
          refine ⟨k + 1, rfl, hlt, ?_, HI4.out, HF4.out⟩
          rw [ht, List.any_append, HA.out, List.any_cons, hn]; rfl
        clear ht hn
        dsimp only [nv]
        go_wp2_with fail
        go_roundw
        case rel => exact HN.out
        case measure => simp [intOf]; omega
    · obtain rfl : k = x.dates.length := by omega
      have HAN : Hid (x.dates.any (fun c => (number c).isNone) = false) := by have := HA.out; rw [List.take_length] at this; exact this
      have j30 : wr.cell? ⟨W.heap.size, 30, none⟩ = some (.slice Ac x.dates.length cc) := by rw [← HSC.out]; exact cell_of_blk HI.out 30
      have HH2 : Hid (HS q hm lh wr) := HH.out.fr HF.out (fun _ h => h.elim)
      clear hf hk hlt HA HH
      go_wp2_with fail
      go_loopw [31] (fun i wr => H2 q hm lh x s W i wr) (fun i wr => x.dates.length - (intOf i).toNat)
      case atStart => exact ⟨0, rfl, Nat.zero_le _, HH2.out, HI.out, HF2.out⟩
      case round =>
        clear j30 HI HF HF2 HH2
        obtain ⟨k, rfl, hk, hh, hi, hf⟩ := hrel
        have HH := Lib.hid hh; have HI := Lib.hid hi; have HF := Lib.hid hf
        clear hh hi
        by_cases hlt : k < x.dates.length
        · obtain ⟨g, o, rfl, e0, e1, e2⟩ := dates_at HROW.out (HBW.out _ HF.out) hlt HSC.out
          have i1 : (0 : Int) ≤ (k : Int) := Int.natCast_nonneg _
          have i2 : (k : Int) < (x.dates.length : Int) := by omega
          have hsz : W.heap.size ≤ wr.heap.size := hf.size
          have HF3 : Hid (Fr (fun k => k = hm) W (wr.alloc (.cells #[.int .i64 x.dates[k].y, .int .i64 x.dates[k].m, .int .i64 x.dates[k].d] 23))) := hf.alloc _
          clear hf
          have hck : CivilOk x.dates[k] := HOK.out _ (List.getElem_mem hlt)
          have HCK := Lib.hid hck; clear hck
          go_wp2_with fail
          refine (Number_any x.dates[k] _ HCK.out (HBB.out _ (HBW.out _ HF3.out))).mono ?_
          rintro e w1 ⟨rfl, hF1⟩
          have HF4 := Lib.hid (HF3.out.trans (hF1.mono (fun _ _ h => h.elim)))
          have HI4 : Hid (IB W.heap.size x s w1) := hF1.blk (blk_alloc HI.out _) (fun h => h)
          have HH4 := Lib.hid ((HH.out.fr ((Fr.refl (fun _ => False) wr).alloc _) (fun _ h => h.elim)).fr hF1 (fun _ h => h.elim))
          clear hF1
          have ht : x.dates.take (k + 1) = x.dates.take k ++ [x.dates[k]] := by rw [List.take_succ_eq_append_getElem hlt]
          cases hn : number x.dates[k] with
          | none =>
            exfalso
            have := HAN.out
            rw [List.any_eq_false] at this
            exact this _ (List.getElem_mem hlt) (by rw [hn]; rfl)
          | some n =>
            rw [numv_yes hn]
            obtain ⟨w5, hput, hb5, hf5⟩ := put_day n HH4.out.mb
            have q25 := HH4.out.qc
            have HN : Hid (H2 q hm lh x s W (.int .i64 ((k : Int) + 1)) w5) := by
              refine ⟨k + 1, rfl, hlt, ?_, hf5.blk HI4.out (by omega), HF4.out.trans hf5⟩
              rw [ht, List.filterMap_append, List.foldl_append]
              have e : List.filterMap number [x.dates[k]] = [n] := by simp [hn]
              rw [e]
              refine ⟨(World.cell?_of_block (a := ⟨q, 25, none⟩) (hf5.block q (lt_of_cell q25) (fun e => HH4.out.ne e.symm))).trans q25, hb5, HH4.out.ne⟩
            clear ht hn hb5 hf5
            dsimp only [nv] at hput ⊢
            go_wp2_with fail
            go_roundw
            case rel => exact HN.out
            case measure => simp [intOf]; omega
        · obtain rfl : k = x.dates.length := by omega
          rw [List.take_length] at HH
          have q25 := HH.out.qc
          have hmb := HH.out.mb
          have hsz : (hents (((x.dates.filterMap number).foldl hput lh))).size = ((x.dates.filterMap number).foldl hput lh).length := hents_size _
          have HR : Hid (holiL lh x = ((x.dates.filterMap number).foldl hput lh, if ((x.dates.filterMap number).foldl hput lh).length > 400 then 3 else 0)) := by
            show _ = _
            unfold holiL
            rw [HAN.out]; rfl
          obtain ⟨nl, hnl2⟩ : ∃ nl, (x.dates.filterMap number).foldl hput lh = nl := ⟨_, rfl⟩
          rw [hnl2] at hmb HR HH hsz
          clear hf hk hlt hnl2
          have HSZ := Lib.hid hsz; clear hsz
          have hlm := fun ty => len_map (ty := ty) Tryd.underlying90 hmb
          rw [HSZ.out] at hlm
          clear hmb
          go_wp2_with fail
          · have hg : nl.length > 400 := by have h : 400 < (nl.length : Int) := by assumption
                                            omega
            go_ret
            rw [HR.out]
            exact ⟨ret_int (by show (3 : Int) = if nl.length > 400 then 3 else 0; rw [if_pos hg]), HH.out, HF.out⟩
          · have hg : ¬ nl.length > 400 := by have h : (nl.length : Int) ≤ 400 := by assumption
                                              omega
            go_ret
            rw [HR.out]
            exact ⟨ret_int (by show (0 : Int) = if nl.length > 400 then 3 else 0; rw [if_neg hg]), HH.out, HF.out⟩
end Go.Proofs.YtdhjibnkebbejaaDoor.Rs
