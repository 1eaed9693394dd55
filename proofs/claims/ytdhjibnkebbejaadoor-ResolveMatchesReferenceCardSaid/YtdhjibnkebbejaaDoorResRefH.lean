/-
  What the reference's function holidays returns.
-/
import Derived.Test.YtdhjibnkebbejaaDoorResRefP
import Derived.Test.YtdhjibnkebbejaaDoorResHoli
namespace Go.Proofs.YtdhjibnkebbejaaDoor.Rs
open Go.RowKit Mem Vw Go.ChangeMaps
set_option linter.unusedVariables false
set_option linter.unusedSimpArgs false

theorem rput_len (l : List Int) (d : Int) : (rput l d).length ≤ l.length + 1 := by
  unfold rput
  split
  · omega
  · simp only [List.length_append, List.length_take, List.length_drop, List.length_singleton]; omega
/-- What the first loop holds. -/
def K1 (x : Item) (s : Sl) (w0 u : World) (i : Value) (wr : World) : Prop :=
  ∃ k : Nat, i = .int .i64 (k : Int) ∧ k ≤ x.dates.length ∧ (x.dates.take k).any (fun c => (number c).isNone) = false ∧ IB w0.heap.size x s wr ∧ Fr (fun _ => False) u wr
/-- What the second loop holds. -/
structure K2 (base : Nat) (v : Value) (l : List Int) (x : Item) (s : Sl) (w0 u : World) (k : Nat) (out : List Int) (vo : Value) (wr : World) : Prop where
  eq : rdates out (x.dates.drop k) = rdates l x.dates
  len : out.length ≤ 401
  own : wr.ownsRow base 3 1 vo out.length (out.map nv)
  new : vo = v ∨ ∀ g, vo.ownBlock = some g → w0.heap.size ≤ g
  ib : IB w0.heap.size x s wr
  fr : Fr (fun _ => False) u wr
def K2R (base : Nat) (v : Value) (l : List Int) (x : Item) (s : Sl) (w0 u : World) (vo i : Value) (wr : World) : Prop :=
  ∃ k out A c, i = .int .i64 ((k : Nat) : Int) ∧ k ≤ x.dates.length ∧ vo = .slice A (List.length out) c ∧ Hid (K2 base v l x s w0 u k out (.slice A (List.length out) c) wr)
theorem rdates_stop {out : List Int} (h : ¬ out.length ≤ 400) (ds : List Civil) : rdates out ds = out := by
  cases ds with
  | nil => rfl
  | cons c ds => unfold rdates; rw [if_neg h]
set_option maxRecDepth 100000 in
set_option maxHeartbeats 4000000 in
theorem rholidays_any (base : Nat) (l : List Int) (v : Value) (x : Item) (s : Sl) (W : World) (h : W.ownsRow base 3 1 v l.length (l.map nv)) (hl : l.length ≤ 401) (hbase : base ≤ W.heap.size) (hrow : Row W s.2.1 3 (x.dates.map civilc)) (hok : ∀ c ∈ x.dates, CivilOk c) :
    Calls Tryd.prog 32 #[v, .agg (ic (x, s)).toArray] W fun e w' => ∃ v', e = .returned (.tuple #[v', .int .i64 (rholi l x).2]) ∧ PutOut base v (rholi l x).1 W w' v' := by
  obtain ⟨u, hu⟩ : ∃ u, W.alloc (.cells (ic (x, s)).toArray 55) = u := ⟨_, rfl⟩
  have HI : Hid (IB W.heap.size x s u) := by rw [← hu]; exact blk_newn rfl
  have HF : Hid (Fr (fun _ => False) W u) := by rw [← hu]; exact (Fr.refl _ W).alloc _
  have HU := Lib.hid hu
  clear hu
  obtain ⟨Ac, cc, hsc, hcc1, hcc2⟩ := hrow.slice
  rw [List.length_map] at hsc hcc1
  have hnl : x.dates.length ≤ 9223372036854775807 := by omega
  have j30 : u.cell? ⟨W.heap.size, 30, none⟩ = some s.2.1 := cell_of_blk HI.out 30
  rw [hsc] at j30
  have HSC := Lib.hid hsc
  obtain ⟨A0, c0, hv⟩ := own_form h
  subst hv
  have HO := Lib.hid h; have HROW := Lib.hid hrow; have HOK := Lib.hid hok; have HL := Lib.hid hl
  clear h hrow hok hsc hl
  have BW : ∀ wr : World, Fr (fun _ => False) u wr → Below W.heap.size W wr := fun wr hf => (HF.out.trans hf).below (Nat.le_refl _) (fun _ h => h.elim)
  have HBW := Lib.hid BW; clear BW
  go_enter Tryd.func32, Tryd.ntmps32
  go_upto_region 1 with fail
  rw [HU.out]
  clear HU
  go_wp2_with fail
  go_loopw [7] (fun i wr => K1 x s W u i wr) (fun i wr => x.dates.length - (intOf i).toNat)
  case atStart => exact ⟨0, rfl, Nat.zero_le _, rfl, HI.out, Fr.refl _ _⟩
  case round =>
    clear j30
    obtain ⟨k, rfl, hk, ha, hi, hf⟩ := hrel
    have HA := Lib.hid ha; have HIk := Lib.hid hi; have HFk := Lib.hid hf
    clear ha hi hf
    have i1 : (0 : Int) ≤ (k : Int) := Int.natCast_nonneg _
    by_cases hlt : k < x.dates.length
    · obtain ⟨g, o, rfl, e0, e1, e2⟩ := dates_at HROW.out (HBW.out _ HFk.out) hlt HSC.out
      have i2 : (k : Int) < (x.dates.length : Int) := by omega
      have j30 : wr.cell? ⟨W.heap.size, 30, none⟩ = some (.slice (some ⟨g, o, none⟩) x.dates.length cc) := by rw [← HSC.out]; exact cell_of_blk HIk.out 30
      have HN := Lib.hid (rNumber_any x.dates[k] wr (HOK.out _ (List.getElem_mem hlt)))
      go_wp2_with fail
      refine HN.out.mono ?_
      rintro e w1 ⟨rfl, hF1⟩
      have HF4 := Lib.hid (HFk.out.trans hF1)
      have HI4 : Hid (IB W.heap.size x s w1) := hF1.blk HIk.out (fun h => h)
      clear hF1 HN e0 e1 e2 j30
      have ht : x.dates.take (k + 1) = x.dates.take k ++ [x.dates[k]] := by rw [List.take_succ_eq_append_getElem hlt]
      cases hn : number x.dates[k] with
      | none =>
        rw [numv_no hn]
        have HR : Hid (rholi l x = (l, 2)) := by
          show _ = _
          unfold rholi
          rw [if_pos]
          rw [List.any_eq_true]
          exact ⟨_, List.getElem_mem hlt, by rw [hn]; rfl⟩
        clear ht hn
        dsimp only [nv]
        go_wp2_with fail
        go_ret2
        rw [HR.out]
        exact ⟨_, rfl, own_fr HO.out (HF.out.trans HF4.out) (fun _ _ _ h => h), HF.out.trans HF4.out, .inl rfl⟩
      | some n =>
        rw [numv_yes hn]
        have HN : Hid (K1 x s W u (.int .i64 ((k : Int) + 1)) w1) := by
          refine ⟨k + 1, rfl, hlt, ?_, HI4.out, HF4.out⟩
          rw [ht, List.any_append, HA.out, List.any_cons, hn]; rfl
        clear ht hn
        dsimp only [nv]
        go_wp2_with fail
        go_roundw
        case rel => exact HN.out
        case measure => simp [intOf]; omega
    · obtain rfl : k = x.dates.length := by omega
      have HAN : Hid (x.dates.any (fun c => (number c).isNone) = false) := by have := HA.out; rw [List.take_length] at this; exact this
      have HRH : Hid (rholi l x = (rdates l x.dates, if (rdates l x.dates).length > 400 then 3 else 0)) := by show _ = _; unfold rholi; rw [HAN.out]; rfl
      have j30 : wr.cell? ⟨W.heap.size, 30, none⟩ = some (.slice Ac x.dates.length cc) := by rw [← HSC.out]; exact cell_of_blk HIk.out 30
      have HS0 : Hid (K2 base (.slice A0 l.length c0) l x s W u 0 l (.slice A0 l.length c0) wr) := ⟨rfl, HL.out, own_fr HO.out (HF.out.trans HFk.out) (fun _ _ _ h => h), .inl rfl, HIk.out, HFk.out⟩
      clear hk hlt HA HIk HFk i1
      go_wp2_with fail
      go_loopw [6, 10] (fun vo i wr => K2R base (.slice A0 l.length c0) l x s W u vo i wr) (fun _ i wr => x.dates.length - (intOf i).toNat)
      case atStart => exact ⟨0, l, A0, c0, rfl, Nat.zero_le _, rfl, HS0⟩
      case round =>
        clear j30 HS0
        obtain ⟨k, out, A, c, rfl, hk, rfl, HK⟩ := hrel
        have i1 : (0 : Int) ≤ (k : Int) := Int.natCast_nonneg _
        have hol : out.length ≤ 401 := HK.out.len
        by_cases hle : out.length ≤ 400
        · have hle2 : (out.length : Int) ≤ 400 := by omega
          by_cases hlt : k < x.dates.length
          · obtain ⟨g, o, rfl, e0, e1, e2⟩ := dates_at HROW.out (HBW.out _ HK.out.fr) hlt HSC.out
            have i2 : (k : Int) < (x.dates.length : Int) := by omega
            have j30 : wr.cell? ⟨W.heap.size, 30, none⟩ = some (.slice (some ⟨g, o, none⟩) x.dates.length cc) := by rw [← HSC.out]; exact cell_of_blk HK.out.ib 30
            have HN := Lib.hid (rNumber_any x.dates[k] wr (HOK.out _ (List.getElem_mem hlt)))
            go_wp2_with fail
            refine HN.out.mono ?_
            rintro e w1 ⟨rfl, hF1⟩
            have HF1 := Lib.hid hF1
            have hdr : x.dates.drop k = x.dates[k] :: x.dates.drop (k + 1) := List.drop_eq_getElem_cons hlt
            clear hF1 HN e0 e1 e2 j30
            cases hn : number x.dates[k] with
            | none =>
              exfalso
              have := HAN.out
              rw [List.any_eq_false] at this
              exact this _ (List.getElem_mem hlt) (by rw [hn]; rfl)
            | some n =>
              rw [numv_yes hn]
              have HEQ : Hid (rdates (rput out n) (x.dates.drop (k + 1)) = rdates l x.dates) := by
                show _ = _
                rw [← HK.out.eq, hdr]
                conv => rhs; unfold rdates
                rw [if_pos hle, hn]
                rfl
              have HPU := Lib.hid (rput_any out _ n base w1 (own_fr HK.out.own HF1.out (fun _ _ _ h => h)) (by omega) (by have h1 := HF.out.size; have h2 := HK.out.fr.size; have h3 := HF1.out.size; omega))
              clear hn hdr
              dsimp only [nv]
              go_wp2_with fail
              refine HPU.out.mono ?_
              rintro e w5 ⟨v', rfl, ho5, hf5, hn5⟩
              obtain ⟨A5, c5, hv5⟩ := own_form ho5
              subst hv5
              have HNX : Hid (K2 base (.slice A0 l.length c0) l x s W u (k + 1) (rput out n) (.slice A5 (rput out n).length c5) w5) := by
                refine ⟨HEQ.out, by have := rput_len out n; omega, ho5, ?_, hf5.blk (HF1.out.blk HK.out.ib (fun h => h)) (fun h => h), (HK.out.fr.trans HF1.out).trans hf5⟩
                rcases hn5 with e | hn5
                · rw [e]; exact HK.out.new
                · exact .inr (fun g hg => by have h0 := hn5 g hg; have h1 := HF.out.size; have h2 := HK.out.fr.size; have h3 := HF1.out.size; omega)
              clear ho5 hf5 hn5 HPU
              go_wp2_with fail
              go_roundw
              case rel => exact ⟨k + 1, _, _, _, by go_num, hlt, rfl, HNX⟩
              case measure => simp [intOf]; omega
          · obtain rfl : k = x.dates.length := by omega
            have HE : Hid (out = rdates l x.dates) := by have h1 := HK.out.eq; rw [List.drop_length] at h1; exact h1
            have j30 : wr.cell? ⟨W.heap.size, 30, none⟩ = some (.slice Ac x.dates.length cc) := by rw [← HSC.out]; exact cell_of_blk HK.out.ib 30
            have hgt : ¬ (400 : Int) < (out.length : Int) := by omega
            go_wp2_with fail
            go_ret2
            rw [HRH.out, ← HE.out, if_neg (by omega)]
            exact ⟨_, rfl, HK.out.own, HF.out.trans HK.out.fr, HK.out.new⟩
        · have hle2 : ¬ (out.length : Int) ≤ 400 := by omega
          have HE : Hid (out = rdates l x.dates) := by have h1 := HK.out.eq; rw [rdates_stop hle] at h1; exact h1
          have j30 : wr.cell? ⟨W.heap.size, 30, none⟩ = some (.slice Ac x.dates.length cc) := by rw [← HSC.out]; exact cell_of_blk HK.out.ib 30
          have hgt : (400 : Int) < (out.length : Int) := by omega
          by_cases hlt : k < x.dates.length
          · have i2 : (k : Int) < (x.dates.length : Int) := by omega
            go_wp2_with fail
            go_ret2
            rw [HRH.out, ← HE.out, if_pos (by omega)]
            exact ⟨_, rfl, HK.out.own, HF.out.trans HK.out.fr, HK.out.new⟩
          · have i2 : ¬ (k : Int) < (x.dates.length : Int) := by omega
            go_wp2_with fail
            go_ret2
            rw [HRH.out, ← HE.out, if_pos (by omega)]
            exact ⟨_, rfl, HK.out.own, HF.out.trans HK.out.fr, HK.out.new⟩
end Go.Proofs.YtdhjibnkebbejaaDoor.Rs
