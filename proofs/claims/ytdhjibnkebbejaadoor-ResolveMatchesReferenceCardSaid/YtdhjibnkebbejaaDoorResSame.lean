/-
  What the reference's functions Faults, Clauses, Begins, Same return for equal things.
-/
import Derived.Test.YtdhjibnkebbejaaDoorResTop
import Derived.Laws.StructEq
namespace Go.Proofs.YtdhjibnkebbejaaDoor.Rs
open Go.RowKit Mem Vw
set_option linter.unusedVariables false
set_option linter.unusedSimpArgs false

theorem ne_role (a0 : ByteArray) (a1 : Int) (W : World) : (binOp .neq 59 (.agg #[.string a0, .int .i64 a1]) (.agg #[.string a0, .int .i64 a1])).run Tryd.prog W = .ok (.bool false) W := by
  go_simp
theorem ne_unit (a0 : ByteArray) (a1 : Int) (a2 : Int) (a3 : Int) (a4 : Int) (W : World) : (binOp .neq 61 (.agg #[.string a0, .int .i64 a1, .int .i64 a2, .int .i64 a3, .int .i64 a4]) (.agg #[.string a0, .int .i64 a1, .int .i64 a2, .int .i64 a3, .int .i64 a4])).run Tryd.prog W = .ok (.bool false) W := by
  go_simp
theorem ne_asym (a0 : ByteArray) (a1 : Int) (a2 : Int) (a3 : Int) (a4 : Int) (a5 : Int) (a6 : Int) (a7 : Int) (a8 : Int) (W : World) : (binOp .neq 65 (.agg #[.string a0, .int .i64 a1, .int .i64 a2, .int .i64 a3, .int .i64 a4, .int .i64 a5, .int .i64 a6, .int .i64 a7, .int .i64 a8]) (.agg #[.string a0, .int .i64 a1, .int .i64 a2, .int .i64 a3, .int .i64 a4, .int .i64 a5, .int .i64 a6, .int .i64 a7, .int .i64 a8])).run Tryd.prog W = .ok (.bool false) W := by
  go_simp
theorem ne_cond (a0 : Int) (a1 : Int) (W : World) : (binOp .neq 114 (.agg #[.int .i64 a0, .int .i64 a1]) (.agg #[.int .i64 a0, .int .i64 a1])).run Tryd.prog W = .ok (.bool false) W := by
  go_simp
theorem ne_span (a0 : Int) (a1 : Bool) (a2 : ByteArray) (W : World) : (binOp .neq 49 (.agg #[.int .i64 a0, .bool a1, .string a2]) (.agg #[.int .i64 a0, .bool a1, .string a2])).run Tryd.prog W = .ok (.bool false) W := by
  go_simp
theorem ne_fault (a0 : Int) (a1 : Int) (W : World) : (binOp .neq 82 (.agg #[.int .i64 a0, .int .i64 a1]) (.agg #[.int .i64 a0, .int .i64 a1])).run Tryd.prog W = .ok (.bool false) W := by
  go_simp
theorem ne_civil (a0 : Int) (a1 : Int) (a2 : Int) (W : World) : (binOp .neq 23 (.agg #[.int .i64 a0, .int .i64 a1, .int .i64 a2]) (.agg #[.int .i64 a0, .int .i64 a1, .int .i64 a2])).run Tryd.prog W = .ok (.bool false) W := by
  go_simp
theorem eq_ratio (a0 : Int) (a1 : Int) (W : World) : (binOp .eql 52 (.agg #[.int .i64 a0, .int .i64 a1]) (.agg #[.int .i64 a0, .int .i64 a1])).run Tryd.prog W = .ok (.bool true) W := by
  go_simp
theorem ne_days (a b c d e f g : Bool) (W : World) : (binOp .neq 29 (.agg #[.bool a, .bool b, .bool c, .bool d, .bool e, .bool f, .bool g]) (.agg #[.bool a, .bool b, .bool c, .bool d, .bool e, .bool f, .bool g])).run Tryd.prog W = .ok (.bool false) W := by
  cases a <;> cases b <;> cases c <;> cases d <;> cases e <;> cases f <;> cases g <;> kernel_rfl
set_option maxRecDepth 100000 in
set_option maxHeartbeats 2000000 in
theorem faults_true (xs : List Fault) (va vb : Value) (w : World) (ha : Row w va 2 (xs.map faultv)) (hb : Row w vb 2 (xs.map faultv)) :
    Calls Tryd.prog 15 #[va, vb] w fun e w' => e = .returned (.bool true) ∧ ∃ m, w' = w.drewN m := by
  have hlen := ha.len
  rw [List.length_map] at hlen
  obtain ⟨A, ca, rfl, hca, ha⟩ := ha
  obtain ⟨B, cb, rfl, hcb, hb⟩ := hb
  rw [List.length_map] at *
  have HA := Lib.hid ha; clear ha
  have HB := Lib.hid hb; clear hb
  go_enter Tryd.func15, Tryd.ntmps15
  go_wp2_with fail
  go_loopw [5] (fun i wr => ∃ (j m : Nat), i = .int .i64 j ∧ j ≤ xs.length ∧ wr = w.drewN m) (fun i _ => xs.length - (intOf i).toNat)
  case atStart => exact ⟨0, 0, rfl, by omega, rfl⟩
  case round =>
    obtain ⟨j, m, rfl, hj, rfl⟩ := hrel
    by_cases hlt : j < xs.length
    · have hne : xs.map faultv ≠ [] := by intro e; rw [List.map_eq_nil_iff] at e; rw [e] at hlt; simp at hlt
      obtain ⟨g1, o1, rfl, hg1, hr⟩ := HA.out.resolve_left hne
      obtain ⟨g2, o2, rfl, hg2, hr'⟩ := HB.out.resolve_left hne
      have hr := hr j (faultv xs[j]) (by simp [hlt])
      have hr' := hr' j (faultv xs[j]) (by simp [hlt])
      have c1 : w.cell? ⟨g1, o1 + j * 2, none⟩ = some (.int .i64 xs[j].err) := hr 0 _ rfl
      have c2 : w.cell? ⟨g1, o1 + j * 2 + 1, none⟩ = some (.int .i64 xs[j].pos) := hr 1 _ rfl
      have c3 : w.cell? ⟨g2, o2 + j * 2, none⟩ = some (.int .i64 xs[j].err) := hr' 0 _ rfl
      have c4 : w.cell? ⟨g2, o2 + j * 2 + 1, none⟩ = some (.int .i64 xs[j].pos) := hr' 1 _ rfl
      clear hr hr'
      have hnn := ne_fault xs[j].err xs[j].pos
      generalize xs[j].err = y at *
      generalize xs[j].pos = z at *
      go_wp2_with fail
      go_quiet (fail)
      go_wp2_with fail
      go_roundw
      case rel => exact ⟨j + 1, m + nq, by go_num, by omega, rfl⟩
      case measure => simp [intOf]; omega
    · go_wp2_with fail
      go_ret
      exact ⟨rfl, m, rfl⟩
set_option maxRecDepth 100000 in
set_option maxHeartbeats 4000000 in
theorem clauses_true (c : Clause) (sa sb : Value) (w : World) (ha : Row w sa 2 (c.start.map condv)) (hb : Row w sb 2 (c.start.map condv)) :
    Calls Tryd.prog 40 #[.agg (clv c sa).toArray, .agg (clv c sb).toArray] w fun e w' => e = .returned (.bool true) ∧ Below w.heap.size w w' := by
  have hlen := ha.len
  rw [List.length_map] at hlen
  obtain ⟨u, hu⟩ : ∃ u, (w.alloc (.cells (clv c sa).toArray 69)).alloc (.cells (clv c sb).toArray 69) = u := ⟨_, rfl⟩
  have hx : u.heap[w.heap.size]? = some (.cells (clv c sa).toArray 69 (0, 0)) := by rw [← hu]; exact blk_alloc (blk_newn rfl) _
  have hy : u.heap[w.heap.size + 1]? = some (.cells (clv c sb).toArray 69 (0, 0)) := by rw [← hu]; exact blk_newn (by simp)
  have HBL : Hid (Below w.heap.size w u) := by rw [← hu]; exact ((Below.refl _ w).alloc (Nat.le_refl _) _).alloc (by simp) _
  have ha := ha.below HBL.out
  have hb := hb.below HBL.out
  obtain ⟨A, ca, rfl, hca, ha⟩ := ha
  obtain ⟨B, cb, rfl, hcb, hb⟩ := hb
  rw [List.length_map] at *
  have HA := Lib.hid ha; clear ha
  have HB := Lib.hid hb; clear hb
  have x0 : u.cell? ⟨w.heap.size, 0, none⟩ = some (.int .i64 (c.kind)) := cell_of_blk hx 0
  have x1 : u.cell? ⟨w.heap.size, 1, none⟩ = some (.int .i64 (c.role)) := cell_of_blk hx 1
  have x2 : u.cell? ⟨w.heap.size, 2, none⟩ = some (.int .i64 (c.act)) := cell_of_blk hx 2
  have x3 : u.cell? ⟨w.heap.size, 3, none⟩ = some (.int .i64 (c.need)) := cell_of_blk hx 3
  have x4 : u.cell? ⟨w.heap.size, 4, none⟩ = some (.slice A c.start.length ca) := cell_of_blk hx 4
  have x5 : u.cell? ⟨w.heap.size, 5, none⟩ = some (.int .i64 0) := cell_of_blk hx 5
  have x6 : u.cell? ⟨w.heap.size, 6, none⟩ = some (.int .i64 0) := cell_of_blk hx 6
  have x7 : u.cell? ⟨w.heap.size, 7, none⟩ = some (.bool false) := cell_of_blk hx 7
  have x8 : u.cell? ⟨w.heap.size, 8, none⟩ = some (.bool c.fin) := cell_of_blk hx 8
  have x9 : u.cell? ⟨w.heap.size, 9, none⟩ = some (.int .i64 (c.pause)) := cell_of_blk hx 9
  have x10 : u.cell? ⟨w.heap.size, 10, none⟩ = some (.int .i64 (c.resume)) := cell_of_blk hx 10
  have x11 : u.cell? ⟨w.heap.size, 11, none⟩ = some (.int .i64 (c.value.num)) := cell_of_blk hx 11
  have x12 : u.cell? ⟨w.heap.size, 12, none⟩ = some (.int .i64 (c.value.den)) := cell_of_blk hx 12
  have x13 : u.cell? ⟨w.heap.size, 13, none⟩ = some (.int .i64 (c.unit)) := cell_of_blk hx 13
  have x14 : u.cell? ⟨w.heap.size, 14, none⟩ = some (.int .i64 (c.to_)) := cell_of_blk hx 14
  have x15 : u.cell? ⟨w.heap.size, 15, none⟩ = some (.bool false) := cell_of_blk hx 15
  have y0 : u.cell? ⟨w.heap.size + 1, 0, none⟩ = some (.int .i64 (c.kind)) := cell_of_blk hy 0
  have y1 : u.cell? ⟨w.heap.size + 1, 1, none⟩ = some (.int .i64 (c.role)) := cell_of_blk hy 1
  have y2 : u.cell? ⟨w.heap.size + 1, 2, none⟩ = some (.int .i64 (c.act)) := cell_of_blk hy 2
  have y3 : u.cell? ⟨w.heap.size + 1, 3, none⟩ = some (.int .i64 (c.need)) := cell_of_blk hy 3
  have y4 : u.cell? ⟨w.heap.size + 1, 4, none⟩ = some (.slice B c.start.length cb) := cell_of_blk hy 4
  have y5 : u.cell? ⟨w.heap.size + 1, 5, none⟩ = some (.int .i64 0) := cell_of_blk hy 5
  have y6 : u.cell? ⟨w.heap.size + 1, 6, none⟩ = some (.int .i64 0) := cell_of_blk hy 6
  have y7 : u.cell? ⟨w.heap.size + 1, 7, none⟩ = some (.bool false) := cell_of_blk hy 7
  have y8 : u.cell? ⟨w.heap.size + 1, 8, none⟩ = some (.bool c.fin) := cell_of_blk hy 8
  have y9 : u.cell? ⟨w.heap.size + 1, 9, none⟩ = some (.int .i64 (c.pause)) := cell_of_blk hy 9
  have y10 : u.cell? ⟨w.heap.size + 1, 10, none⟩ = some (.int .i64 (c.resume)) := cell_of_blk hy 10
  have y11 : u.cell? ⟨w.heap.size + 1, 11, none⟩ = some (.int .i64 (c.value.num)) := cell_of_blk hy 11
  have y12 : u.cell? ⟨w.heap.size + 1, 12, none⟩ = some (.int .i64 (c.value.den)) := cell_of_blk hy 12
  have y13 : u.cell? ⟨w.heap.size + 1, 13, none⟩ = some (.int .i64 (c.unit)) := cell_of_blk hy 13
  have y14 : u.cell? ⟨w.heap.size + 1, 14, none⟩ = some (.int .i64 (c.to_)) := cell_of_blk hy 14
  have y15 : u.cell? ⟨w.heap.size + 1, 15, none⟩ = some (.bool false) := cell_of_blk hy 15
  have HU := Lib.hid hu
  clear hx hy hu hca hcb
  go_enter Tryd.func40, Tryd.ntmps40
  go_upto_region 1 with fail
  rw [HU.out]
  clear HU
  go_wp2_with fail
  go_loopw [5] (fun i wr => ∃ (j m : Nat), i = .int .i64 j ∧ j ≤ c.start.length ∧ wr = u.drewN m) (fun i _ => c.start.length - (intOf i).toNat)
  case atStart => exact ⟨0, 0, rfl, by omega, rfl⟩
  case round =>
    obtain ⟨j, m, rfl, hj, rfl⟩ := hrel
    by_cases hlt : j < c.start.length
    · have hne : c.start.map condv ≠ [] := by intro e; rw [List.map_eq_nil_iff] at e; rw [e] at hlt; simp at hlt
      obtain ⟨g1, o1, rfl, hg1, hr⟩ := HA.out.resolve_left hne
      obtain ⟨g2, o2, rfl, hg2, hr'⟩ := HB.out.resolve_left hne
      have hr := hr j (condv c.start[j]) (by simp [hlt])
      have hr' := hr' j (condv c.start[j]) (by simp [hlt])
      have c1 : u.cell? ⟨g1, o1 + j * 2, none⟩ = some (.int .i64 c.start[j].clause) := hr 0 _ rfl
      have c2 : u.cell? ⟨g1, o1 + j * 2 + 1, none⟩ = some (.int .i64 c.start[j].is_) := hr 1 _ rfl
      have c3 : u.cell? ⟨g2, o2 + j * 2, none⟩ = some (.int .i64 c.start[j].clause) := hr' 0 _ rfl
      have c4 : u.cell? ⟨g2, o2 + j * 2 + 1, none⟩ = some (.int .i64 c.start[j].is_) := hr' 1 _ rfl
      clear hr hr'
      have hnn := ne_cond c.start[j].clause c.start[j].is_
      generalize c.start[j].clause = y at *
      generalize c.start[j].is_ = z at *
      go_wp2_with fail
      go_quiet (fail)
      go_wp2_with fail
      go_roundw
      case rel => exact ⟨j + 1, m + nq, by go_num, by omega, rfl⟩
      case measure => simp [intOf]; omega
    · have her := eq_ratio c.value.num c.value.den
      go_wp2_with fail
      go_ret
      exact ⟨rfl, below_drewN HBL.out m⟩
/-- The tables of b begin those of a. -/
structure Begins (a b : Sy) : Prop where
  par : b.parties <+: a.parties
  rol : b.roles <+: a.roles
  uni : b.units <+: a.units
  act : b.acts <+: a.acts
  cla : b.clauses <+: a.clauses
theorem pre_at {α : Type} {a b : List α} (h : b <+: a) {j : Nat} (hj : j < b.length) : ∃ x, a[j]? = some x ∧ b[j]? = some x := by
  obtain ⟨t, rfl⟩ := h
  exact ⟨b[j], by rw [List.getElem?_append_left hj]; exact List.getElem?_eq_getElem hj, List.getElem?_eq_getElem hj⟩
theorem info_csymv (c : ClauseSym) (st : Value) : (Tryd.prog.info? 71).map (·.size) = some (csymv c st).length := by kernel_rfl
theorem info_csymva (c : ClauseSym) (st : Value) : (Tryd.prog.info? 71).map (·.size) = some (csymv c st).toArray.size := by kernel_rfl
theorem one_csymv (c : ClauseSym) (A : Option Addr) (n m : Nat) : (csymv c (.slice A n m)).toArray.all (·.oneCell') = true := by simp [csymv, clv, spanc, sv, nv, Value.oneCell']
theorem SyRows.below {W W' : World} {s : Sy} {H : RH} {cl : List (ClauseSym × Value)} (h : SyRows W s H cl) (hb : Below W.heap.size W W') : SyRows W' s H cl :=
  ⟨h.hol.below hb, h.par.below hb, h.rol.below hb, h.uni.below hb, h.act.below hb, h.cla.below hb, h.cls, fun p hp => (h.cnd p hp).below hb, h.wk⟩
set_option maxRecDepth 100000 in
set_option maxHeartbeats 8000000 in
theorem begins_true (srca srcb : Source) (wka wkb : List Bool) (a b : Sy) (Ha Hb : RH) (cla clb : List (ClauseSym × Value)) (w : World) (ha : SyRows w a Ha cla) (hb : SyRows w b Hb clb) (hp : Begins a b) :
    Calls Tryd.prog 24 #[.agg (symc srca wka Ha).toArray, .agg (symc srcb wkb Hb).toArray] w fun e w' => e = .returned (.bool true) ∧ Below w.heap.size w w' := by
  obtain ⟨u, hu⟩ : ∃ u, (w.alloc (.cells (symc srca wka Ha).toArray 39)).alloc (.cells (symc srcb wkb Hb).toArray 39) = u := ⟨_, rfl⟩
  have hx : u.heap[w.heap.size]? = some (.cells (symc srca wka Ha).toArray 39 (0, 0)) := by rw [← hu]; exact blk_alloc (blk_newn rfl) _
  have hy : u.heap[w.heap.size + 1]? = some (.cells (symc srcb wkb Hb).toArray 39 (0, 0)) := by rw [← hu]; exact blk_newn (by simp)
  have HBL : Hid (Below w.heap.size w u) := by rw [← hu]; exact ((Below.refl _ w).alloc (Nat.le_refl _) _).alloc (by simp) _
  have hzu : w.heap.size + 2 ≤ u.heap.size := by have := lt_of_blk hy; omega
  have hapar := (ha.par).below HBL.out
  obtain ⟨Apar, capar, eapar, _, hapar⟩ := hapar
  rw [List.length_map] at eapar
  have x13 : u.cell? ⟨w.heap.size, 13, none⟩ = some (.slice Apar a.parties.length capar) := (cell_of_blk hx 13).trans (by rw [← eapar]; rfl)
  have HApar := Lib.hid hapar; clear hapar
  have harol := (ha.rol).below HBL.out
  obtain ⟨Arol, carol, earol, _, harol⟩ := harol
  rw [List.length_map] at earol
  have x14 : u.cell? ⟨w.heap.size, 14, none⟩ = some (.slice Arol a.roles.length carol) := (cell_of_blk hx 14).trans (by rw [← earol]; rfl)
  have HArol := Lib.hid harol; clear harol
  have hauni := (ha.uni).below HBL.out
  obtain ⟨Auni, cauni, eauni, _, hauni⟩ := hauni
  rw [List.length_map] at eauni
  have x15 : u.cell? ⟨w.heap.size, 15, none⟩ = some (.slice Auni a.units.length cauni) := (cell_of_blk hx 15).trans (by rw [← eauni]; rfl)
  have HAuni := Lib.hid hauni; clear hauni
  have haact := (ha.act).below HBL.out
  obtain ⟨Aact, caact, eaact, _, haact⟩ := haact
  rw [List.length_map] at eaact
  have x16 : u.cell? ⟨w.heap.size, 16, none⟩ = some (.slice Aact a.acts.length caact) := (cell_of_blk hx 16).trans (by rw [← eaact]; rfl)
  have HAact := Lib.hid haact; clear haact
  have hacla := (ha.cla).below HBL.out
  obtain ⟨Acla, cacla, eacla, _, hacla⟩ := hacla
  rw [List.length_map] at eacla
  have la : cla.length = a.clauses.length := by rw [← ha.cls, List.length_map]
  rw [la] at eacla
  have x17 : u.cell? ⟨w.heap.size, 17, none⟩ = some (.slice Acla a.clauses.length cacla) := (cell_of_blk hx 17).trans (by rw [← eacla]; rfl)
  have HAcla := Lib.hid hacla; clear hacla
  have hbpar := (hb.par).below HBL.out
  obtain ⟨Bpar, cbpar, ebpar, _, hbpar⟩ := hbpar
  rw [List.length_map] at ebpar
  have y13 : u.cell? ⟨w.heap.size + 1, 13, none⟩ = some (.slice Bpar b.parties.length cbpar) := (cell_of_blk hy 13).trans (by rw [← ebpar]; rfl)
  have HBpar := Lib.hid hbpar; clear hbpar
  have hbrol := (hb.rol).below HBL.out
  obtain ⟨Brol, cbrol, ebrol, _, hbrol⟩ := hbrol
  rw [List.length_map] at ebrol
  have y14 : u.cell? ⟨w.heap.size + 1, 14, none⟩ = some (.slice Brol b.roles.length cbrol) := (cell_of_blk hy 14).trans (by rw [← ebrol]; rfl)
  have HBrol := Lib.hid hbrol; clear hbrol
  have hbuni := (hb.uni).below HBL.out
  obtain ⟨Buni, cbuni, ebuni, _, hbuni⟩ := hbuni
  rw [List.length_map] at ebuni
  have y15 : u.cell? ⟨w.heap.size + 1, 15, none⟩ = some (.slice Buni b.units.length cbuni) := (cell_of_blk hy 15).trans (by rw [← ebuni]; rfl)
  have HBuni := Lib.hid hbuni; clear hbuni
  have hbact := (hb.act).below HBL.out
  obtain ⟨Bact, cbact, ebact, _, hbact⟩ := hbact
  rw [List.length_map] at ebact
  have y16 : u.cell? ⟨w.heap.size + 1, 16, none⟩ = some (.slice Bact b.acts.length cbact) := (cell_of_blk hy 16).trans (by rw [← ebact]; rfl)
  have HBact := Lib.hid hbact; clear hbact
  have hbcla := (hb.cla).below HBL.out
  obtain ⟨Bcla, cbcla, ebcla, _, hbcla⟩ := hbcla
  rw [List.length_map] at ebcla
  have lb : clb.length = b.clauses.length := by rw [← hb.cls, List.length_map]
  rw [lb] at ebcla
  have y17 : u.cell? ⟨w.heap.size + 1, 17, none⟩ = some (.slice Bcla b.clauses.length cbcla) := (cell_of_blk hy 17).trans (by rw [← ebcla]; rfl)
  have HBcla := Lib.hid hbcla; clear hbcla
  have qpar : ¬ ((a.parties.length : Int) < (b.parties.length : Int)) := by have := hp.par.length_le; omega
  have mpar : b.parties.length ≤ 9223372036854775807 := by have := hb.par.len; rw [List.length_map] at this; omega
  have qrol : ¬ ((a.roles.length : Int) < (b.roles.length : Int)) := by have := hp.rol.length_le; omega
  have mrol : b.roles.length ≤ 9223372036854775807 := by have := hb.rol.len; rw [List.length_map] at this; omega
  have quni : ¬ ((a.units.length : Int) < (b.units.length : Int)) := by have := hp.uni.length_le; omega
  have muni : b.units.length ≤ 9223372036854775807 := by have := hb.uni.len; rw [List.length_map] at this; omega
  have qact : ¬ ((a.acts.length : Int) < (b.acts.length : Int)) := by have := hp.act.length_le; omega
  have mact : b.acts.length ≤ 9223372036854775807 := by have := hb.act.len; rw [List.length_map] at this; omega
  have qcla : ¬ ((a.clauses.length : Int) < (b.clauses.length : Int)) := by have := hp.cla.length_le; omega
  have mcla : b.clauses.length ≤ 9223372036854775807 := by have := hb.cla.len; rw [List.length_map] at this; omega
  have HU := Lib.hid hu; have HP := Lib.hid hp
  have HCA : Hid (∀ p ∈ cla, Row u p.2 2 (p.1.clause.start.map condv)) := fun p hm => (ha.cnd p hm).below HBL.out
  have HCB : Hid (∀ p ∈ clb, Row u p.2 2 (p.1.clause.start.map condv)) := fun p hm => (hb.cnd p hm).below HBL.out
  have HEA : Hid (cla.map Prod.fst = a.clauses) := ha.cls
  have HEB : Hid (clb.map Prod.fst = b.clauses) := hb.cls
  clear hx hy hu hp ha hb eapar earol eauni eaact eacla ebpar ebrol ebuni ebact ebcla
  go_enter Tryd.func24, Tryd.ntmps24
  go_upto_region 1 with fail
  rw [HU.out]
  clear HU
  go_wp2_with fail
  go_loopw [5] (fun i wr => ∃ (j m : Nat), i = .int .i64 j ∧ j ≤ b.parties.length ∧ wr = u.drewN m) (fun i _ => b.parties.length - (intOf i).toNat)
  case atStart => exact ⟨0, 0, rfl, by omega, rfl⟩
  case round =>
    obtain ⟨j, m, rfl, hj, rfl⟩ := hrel
    by_cases hlt : j < b.parties.length
    · have hla : j < a.parties.length := by omega
      obtain ⟨x, ex1, ex2⟩ := pre_at HP.out.par hlt
      obtain ⟨g1, o1, rfl, hg1, hr⟩ := HApar.out.resolve_left (by intro e; rw [List.map_eq_nil_iff] at e; rw [e] at hla; simp at hla)
      obtain ⟨g2, o2, rfl, hg2, hr'⟩ := HBpar.out.resolve_left (by intro e; rw [List.map_eq_nil_iff] at e; rw [e] at hlt; simp at hlt)
      have hr := hr j ([sv x]) (by rw [List.getElem?_map, ex1]; rfl)
      have hr' := hr' j ([sv x]) (by rw [List.getElem?_map, ex2]; rfl)
      have c0 : u.cell? ⟨g1, o1 + j, none⟩ = some (.string ⟨x.toArray⟩) := by have := hr 0 _ rfl; simpa [sv] using this
      have d0 : u.cell? ⟨g2, o2 + j, none⟩ = some (.string ⟨x.toArray⟩) := by have := hr' 0 _ rfl; simpa [sv] using this
      clear hr hr' ex1 ex2
      go_wp2_with fail
      go_quiet (fail)
      go_wp2_with fail
      go_roundw
      case rel => exact ⟨j + 1, m + nq, by go_num, by omega, rfl⟩
      case measure => simp [intOf]; omega
    · clear HApar HBpar
      go_wp2_with fail
      go_loopw [6] (fun i wr => ∃ (j m : Nat), i = .int .i64 j ∧ j ≤ b.roles.length ∧ wr = u.drewN m) (fun i _ => b.roles.length - (intOf i).toNat)
      case atStart => exact ⟨0, m, rfl, by omega, rfl⟩
      case round =>
        obtain ⟨j, m, rfl, hj, rfl⟩ := hrel
        by_cases hlt : j < b.roles.length
        · have hla : j < a.roles.length := by omega
          obtain ⟨x, ex1, ex2⟩ := pre_at HP.out.rol hlt
          obtain ⟨g1, o1, rfl, hg1, hr⟩ := HArol.out.resolve_left (by intro e; rw [List.map_eq_nil_iff] at e; rw [e] at hla; simp at hla)
          obtain ⟨g2, o2, rfl, hg2, hr'⟩ := HBrol.out.resolve_left (by intro e; rw [List.map_eq_nil_iff] at e; rw [e] at hlt; simp at hlt)
          have hr := hr j (rolev x) (by rw [List.getElem?_map, ex1]; rfl)
          have hr' := hr' j (rolev x) (by rw [List.getElem?_map, ex2]; rfl)
          have c0 : u.cell? ⟨g1, o1 + j * 2, none⟩ = some (.string ⟨x.1.toArray⟩) := hr 0 _ rfl
          have c1 : u.cell? ⟨g1, o1 + j * 2 + 1, none⟩ = some (.int .i64 x.2) := hr 1 _ rfl
          have d0 : u.cell? ⟨g2, o2 + j * 2, none⟩ = some (.string ⟨x.1.toArray⟩) := hr' 0 _ rfl
          have d1 : u.cell? ⟨g2, o2 + j * 2 + 1, none⟩ = some (.int .i64 x.2) := hr' 1 _ rfl
          clear hr hr' ex1 ex2
          have hnn := ne_role ⟨x.1.toArray⟩ x.2
          go_wp2_with fail
          go_quiet (fail)
          go_wp2_with fail
          go_roundw
          case rel => exact ⟨j + 1, m + nq, by go_num, by omega, rfl⟩
          case measure => simp [intOf]; omega
        · clear HArol HBrol
          go_wp2_with fail
          go_loopw [7] (fun i wr => ∃ (j m : Nat), i = .int .i64 j ∧ j ≤ b.units.length ∧ wr = u.drewN m) (fun i _ => b.units.length - (intOf i).toNat)
          case atStart => exact ⟨0, m, rfl, by omega, rfl⟩
          case round =>
            obtain ⟨j, m, rfl, hj, rfl⟩ := hrel
            by_cases hlt : j < b.units.length
            · have hla : j < a.units.length := by omega
              obtain ⟨x, ex1, ex2⟩ := pre_at HP.out.uni hlt
              obtain ⟨g1, o1, rfl, hg1, hr⟩ := HAuni.out.resolve_left (by intro e; rw [List.map_eq_nil_iff] at e; rw [e] at hla; simp at hla)
              obtain ⟨g2, o2, rfl, hg2, hr'⟩ := HBuni.out.resolve_left (by intro e; rw [List.map_eq_nil_iff] at e; rw [e] at hlt; simp at hlt)
              have hr := hr j (unitv x) (by rw [List.getElem?_map, ex1]; rfl)
              have hr' := hr' j (unitv x) (by rw [List.getElem?_map, ex2]; rfl)
              have c0 : u.cell? ⟨g1, o1 + j * 5, none⟩ = some (.string ⟨x.name.toArray⟩) := hr 0 _ rfl
              have c1 : u.cell? ⟨g1, o1 + j * 5 + 1, none⟩ = some (.int .i64 x.kind) := hr 1 _ rfl
              have c2 : u.cell? ⟨g1, o1 + j * 5 + 2, none⟩ = some (.int .i64 x.base) := hr 2 _ rfl
              have c3 : u.cell? ⟨g1, o1 + j * 5 + 3, none⟩ = some (.int .i64 x.factor.num) := hr 3 _ rfl
              have c4 : u.cell? ⟨g1, o1 + j * 5 + 4, none⟩ = some (.int .i64 x.factor.den) := hr 4 _ rfl
              have d0 : u.cell? ⟨g2, o2 + j * 5, none⟩ = some (.string ⟨x.name.toArray⟩) := hr' 0 _ rfl
              have d1 : u.cell? ⟨g2, o2 + j * 5 + 1, none⟩ = some (.int .i64 x.kind) := hr' 1 _ rfl
              have d2 : u.cell? ⟨g2, o2 + j * 5 + 2, none⟩ = some (.int .i64 x.base) := hr' 2 _ rfl
              have d3 : u.cell? ⟨g2, o2 + j * 5 + 3, none⟩ = some (.int .i64 x.factor.num) := hr' 3 _ rfl
              have d4 : u.cell? ⟨g2, o2 + j * 5 + 4, none⟩ = some (.int .i64 x.factor.den) := hr' 4 _ rfl
              clear hr hr' ex1 ex2
              have hnn := ne_unit ⟨x.name.toArray⟩ x.kind x.base x.factor.num x.factor.den
              go_wp2_with fail
              go_quiet (fail)
              go_wp2_with fail
              go_roundw
              case rel => exact ⟨j + 1, m + nq, by go_num, by omega, rfl⟩
              case measure => simp [intOf]; omega
            · clear HAuni HBuni
              go_wp2_with fail
              go_loopw [8] (fun i wr => ∃ (j m : Nat), i = .int .i64 j ∧ j ≤ b.acts.length ∧ wr = u.drewN m) (fun i _ => b.acts.length - (intOf i).toNat)
              case atStart => exact ⟨0, m, rfl, by omega, rfl⟩
              case round =>
                obtain ⟨j, m, rfl, hj, rfl⟩ := hrel
                by_cases hlt : j < b.acts.length
                · have hla : j < a.acts.length := by omega
                  obtain ⟨x, ex1, ex2⟩ := pre_at HP.out.act hlt
                  obtain ⟨g1, o1, rfl, hg1, hr⟩ := HAact.out.resolve_left (by intro e; rw [List.map_eq_nil_iff] at e; rw [e] at hla; simp at hla)
                  obtain ⟨g2, o2, rfl, hg2, hr'⟩ := HBact.out.resolve_left (by intro e; rw [List.map_eq_nil_iff] at e; rw [e] at hlt; simp at hlt)
                  have hr := hr j (asymv x) (by rw [List.getElem?_map, ex1]; rfl)
                  have hr' := hr' j (asymv x) (by rw [List.getElem?_map, ex2]; rfl)
                  have c0 : u.cell? ⟨g1, o1 + j * 9, none⟩ = some (.string ⟨x.name.toArray⟩) := hr 0 _ rfl
                  have c1 : u.cell? ⟨g1, o1 + j * 9 + 1, none⟩ = some (.int .i64 x.pos) := hr 1 _ rfl
                  have c2 : u.cell? ⟨g1, o1 + j * 9 + 2, none⟩ = some (.int .i64 x.act.kind) := hr 2 _ rfl
                  have c3 : u.cell? ⟨g1, o1 + j * 9 + 3, none⟩ = some (.int .i64 x.act.role) := hr 3 _ rfl
                  have c4 : u.cell? ⟨g1, o1 + j * 9 + 4, none⟩ = some (.int .i64 x.act.give) := hr 4 _ rfl
                  have c5 : u.cell? ⟨g1, o1 + j * 9 + 5, none⟩ = some (.int .i64 x.act.to_) := hr 5 _ rfl
                  have c6 : u.cell? ⟨g1, o1 + j * 9 + 6, none⟩ = some (.int .i64 x.act.unit) := hr 6 _ rfl
                  have c7 : u.cell? ⟨g1, o1 + j * 9 + 7, none⟩ = some (.int .i64 x.act.lot.num) := hr 7 _ rfl
                  have c8 : u.cell? ⟨g1, o1 + j * 9 + 8, none⟩ = some (.int .i64 x.act.lot.den) := hr 8 _ rfl
                  have d0 : u.cell? ⟨g2, o2 + j * 9, none⟩ = some (.string ⟨x.name.toArray⟩) := hr' 0 _ rfl
                  have d1 : u.cell? ⟨g2, o2 + j * 9 + 1, none⟩ = some (.int .i64 x.pos) := hr' 1 _ rfl
                  have d2 : u.cell? ⟨g2, o2 + j * 9 + 2, none⟩ = some (.int .i64 x.act.kind) := hr' 2 _ rfl
                  have d3 : u.cell? ⟨g2, o2 + j * 9 + 3, none⟩ = some (.int .i64 x.act.role) := hr' 3 _ rfl
                  have d4 : u.cell? ⟨g2, o2 + j * 9 + 4, none⟩ = some (.int .i64 x.act.give) := hr' 4 _ rfl
                  have d5 : u.cell? ⟨g2, o2 + j * 9 + 5, none⟩ = some (.int .i64 x.act.to_) := hr' 5 _ rfl
                  have d6 : u.cell? ⟨g2, o2 + j * 9 + 6, none⟩ = some (.int .i64 x.act.unit) := hr' 6 _ rfl
                  have d7 : u.cell? ⟨g2, o2 + j * 9 + 7, none⟩ = some (.int .i64 x.act.lot.num) := hr' 7 _ rfl
                  have d8 : u.cell? ⟨g2, o2 + j * 9 + 8, none⟩ = some (.int .i64 x.act.lot.den) := hr' 8 _ rfl
                  clear hr hr' ex1 ex2
                  have hnn := ne_asym ⟨x.name.toArray⟩ x.pos x.act.kind x.act.role x.act.give x.act.to_ x.act.unit x.act.lot.num x.act.lot.den
                  go_wp2_with fail
                  go_quiet (fail)
                  go_wp2_with fail
                  go_roundw
                  case rel => exact ⟨j + 1, m + nq, by go_num, by omega, rfl⟩
                  case measure => simp [intOf]; omega
                · clear HAact HBact
                  go_wp2_with fail
                  go_loopw [9] (fun i wr => ∃ (j : Nat), i = .int .i64 j ∧ j ≤ b.clauses.length ∧ Hid (Below u.heap.size u wr)) (fun i _ => b.clauses.length - (intOf i).toNat)
                  case atStart => exact ⟨0, rfl, by omega, below_drewN (Below.refl _ _) m⟩
                  case round =>
                    obtain ⟨j, rfl, hj, HBW⟩ := hrel
                    by_cases hlt : j < b.clauses.length
                    · have hla : j < a.clauses.length := by omega
                      obtain ⟨x, ex1, ex2⟩ := pre_at HP.out.cla hlt
                      obtain ⟨pa, epa, fpa⟩ : ∃ p, cla[j]? = some p ∧ p.1 = x := by
                        rw [← HEA.out, List.getElem?_map] at ex1
                        obtain ⟨p, h1, h2⟩ := Option.map_eq_some_iff.1 ex1
                        exact ⟨p, h1, h2⟩
                      obtain ⟨pb, epb, fpb⟩ : ∃ p, clb[j]? = some p ∧ p.1 = x := by
                        rw [← HEB.out, List.getElem?_map] at ex2
                        obtain ⟨p, h1, h2⟩ := Option.map_eq_some_iff.1 ex2
                        exact ⟨p, h1, h2⟩
                      have hca := HCA.out pa (List.mem_of_getElem? epa)
                      have hcb := HCB.out pb (List.mem_of_getElem? epb)
                      obtain ⟨xa, sa⟩ := pa
                      obtain ⟨xb, sb⟩ := pb
                      dsimp only at fpa fpb hca hcb
                      subst fpa
                      subst fpb
                      obtain ⟨g1, o1, rfl, hg1, hr⟩ := HAcla.out.resolve_left (by intro e; rw [List.map_eq_nil_iff] at e; rw [e] at epa; simp at epa)
                      obtain ⟨g2, o2, rfl, hg2, hr'⟩ := HBcla.out.resolve_left (by intro e; rw [List.map_eq_nil_iff] at e; rw [e] at epb; simp at epb)
                      have hr := hr j (csymv xb sa) (by rw [List.getElem?_map, epa]; rfl)
                      have hr' := hr' j (csymv xb sb) (by rw [List.getElem?_map, epb]; rfl)
                      obtain ⟨As, ns, cs, rfl⟩ := hca.form
                      obtain ⟨At', nt, ct, rfl⟩ := hcb.form
                      have HCSA := Lib.hid (hca.below HBW.out); have HCSB := Lib.hid (hcb.below HBW.out)
                      have HR1 : Hid (wr.rangeAt g1 (o1 + j * 24) (csymv xb (.slice As ns cs))) := fun i v hi => (HBW.out.cell (p := ⟨g1, _, none⟩) hg1).trans (hr i v hi)
                      have HR2 : Hid (wr.rangeAt g2 (o2 + j * 24) (csymv xb (.slice At' nt ct))) := fun i v hi => (HBW.out.cell (p := ⟨g2, _, none⟩) hg2).trans (hr' i v hi)
                      have hg2w : g2 < wr.heap.size := Nat.lt_of_lt_of_le hg2 HBW.out.size
                      have z13 : wr.cell? ⟨w.heap.size, 17, none⟩ = some (.slice (some ⟨g1, o1, none⟩) a.clauses.length cacla) := (HBW.out.cell (p := ⟨w.heap.size, 17, none⟩) (by show w.heap.size < _; omega)).trans x17
                      have z14 : wr.cell? ⟨w.heap.size + 1, 17, none⟩ = some (.slice (some ⟨g2, o2, none⟩) b.clauses.length cbcla) := (HBW.out.cell (p := ⟨w.heap.size + 1, 17, none⟩) (by show w.heap.size + 1 < _; omega)).trans y17
                      clear hr hr' ex1 ex2 epa epb hca hcb
                      obtain ⟨u1, hu1⟩ : ∃ u1, wr.alloc (.cells (csymv xb (.slice As ns cs)).toArray 71) = u1 := ⟨_, rfl⟩
                      have HX1 : Hid (u1.heap[wr.heap.size]? = some (.cells (csymv xb (.slice As ns cs)).toArray 71 (0, 0))) := by rw [← hu1]; exact blk_newn rfl
                      have HB1 : Hid (Below u.heap.size u u1) := by rw [← hu1]; exact HBW.out.alloc HBW.out.size _
                      have HR3 : Hid (u1.rangeAt g2 (o2 + j * 24) (csymv xb (.slice At' nt ct))) := fun i v hi => by
                        rw [← hu1, World.cell?_alloc_lt wr _ ⟨g2, _, none⟩ hg2w]
                        exact HR2.out i v hi
                      have z15 : u1.cell? ⟨w.heap.size + 1, 17, none⟩ = some (.slice (some ⟨g2, o2, none⟩) b.clauses.length cbcla) := by rw [← hu1, World.cell?_alloc_lt wr _ ⟨w.heap.size + 1, 17, none⟩ (by have := HBW.out.size; show w.heap.size + 1 < _; omega)]; exact z14
                      have HU1 := Lib.hid hu1; have HU1X := Lib.hid hu1
                      clear hu1
                      go_upto_region 26 with fail
                      iterate 13 go_step
                      refine wpList_load_mid rfl 71 _ rfl g1 (o1 + j * 24) rfl (csymv xb (.slice As ns cs)) _ HR1.out Tryd.underlying71 rfl (info_csymv _ _) ?_
                      simp only [Act.put, List.setIfInBounds_toArray, List.set_cons_zero, List.set_cons_succ]
                      iterate 3 go_step
                      refine wpList_store_row rfl 71 _ _ rfl wr.heap.size (csymv xb (.slice As ns cs)).toArray rfl rfl 71 _ (blk_newn rfl) (info_csymva _ _) rfl (one_csymv _ _ _ _) ?_
                      simp only [Act.put, List.setIfInBounds_toArray, List.set_cons_zero, List.set_cons_succ]
                      rw [World.setRow_alloc_new, HU1.out]
                      clear HU1 z13 z14
                      go_upto_region 27 with fail
                      iterate 13 go_step
                      refine wpList_load_mid rfl 71 _ rfl g2 (o2 + j * 24) rfl (csymv xb (.slice At' nt ct)) _ HR3.out Tryd.underlying71 rfl (info_csymv _ _) ?_
                      simp only [Act.put, List.setIfInBounds_toArray, List.set_cons_zero, List.set_cons_succ]
                      iterate 3 go_step
                      refine wpList_store_row rfl 71 _ _ rfl u1.heap.size (csymv xb (.slice At' nt ct)).toArray rfl rfl 71 _ (blk_newn rfl) (info_csymva _ _) rfl (one_csymv _ _ _ _) ?_
                      simp only [Act.put, List.setIfInBounds_toArray, List.set_cons_zero, List.set_cons_succ]
                      rw [World.setRow_alloc_new]
                      obtain ⟨u2, hu2⟩ : ∃ u2, u1.alloc (.cells (csymv xb (.slice At' nt ct)).toArray 71) = u2 := ⟨_, rfl⟩
                      rw [hu2]
                      have hy1 : u2.heap[u1.heap.size]? = some (.cells (csymv xb (.slice At' nt ct)).toArray 71 (0, 0)) := by rw [← hu2]; exact blk_newn rfl
                      have hx1 : u2.heap[wr.heap.size]? = some (.cells (csymv xb (.slice As ns cs)).toArray 71 (0, 0)) := by rw [← hu2]; exact blk_alloc HX1.out _
                      have HB2 : Hid (Below u.heap.size u u2) := by rw [← hu2]; exact HB1.out.alloc HB1.out.size _
                      have HB12 : Hid (Below wr.heap.size wr u2) := by rw [← hu2, ← HU1X.out]; exact ((Below.refl _ wr).alloc (Nat.le_refl _) _).alloc (by simp) _
                      have HCL : Hid (Calls Tryd.prog 40 #[.agg (clv xb.clause (.slice As ns cs)).toArray, .agg (clv xb.clause (.slice At' nt ct)).toArray] u2 fun e w' => e = .returned (.bool true) ∧ Below u2.heap.size u2 w') := clauses_true xb.clause _ _ u2 (HCSA.out.below HB12.out) (HCSB.out.below HB12.out)
                      have c0 : u2.cell? ⟨wr.heap.size, 0, none⟩ = some (.string ⟨xb.name.toArray⟩) := cell_of_blk hx1 0
                      have c1 : u2.cell? ⟨wr.heap.size, 1, none⟩ = some (.int .i64 xb.pos) := cell_of_blk hx1 1
                      have c2 : u2.cell? ⟨wr.heap.size, 2, none⟩ = some (.int .i64 xb.within.days) := cell_of_blk hx1 2
                      have c3 : u2.cell? ⟨wr.heap.size, 3, none⟩ = some (.bool xb.within.bus) := cell_of_blk hx1 3
                      have c4 : u2.cell? ⟨wr.heap.size, 4, none⟩ = some (.string ⟨xb.within.name.toArray⟩) := cell_of_blk hx1 4
                      have c5 : u2.cell? ⟨wr.heap.size, 5, none⟩ = some (.int .i64 xb.grace.days) := cell_of_blk hx1 5
                      have c6 : u2.cell? ⟨wr.heap.size, 6, none⟩ = some (.bool xb.grace.bus) := cell_of_blk hx1 6
                      have c7 : u2.cell? ⟨wr.heap.size, 7, none⟩ = some (.string ⟨xb.grace.name.toArray⟩) := cell_of_blk hx1 7
                      have c8 : u2.cell? ⟨wr.heap.size, 8, none⟩ = some (.int .i64 (xb.clause.kind)) := cell_of_blk hx1 8
                      have c9 : u2.cell? ⟨wr.heap.size, 9, none⟩ = some (.int .i64 (xb.clause.role)) := cell_of_blk hx1 9
                      have c10 : u2.cell? ⟨wr.heap.size, 10, none⟩ = some (.int .i64 (xb.clause.act)) := cell_of_blk hx1 10
                      have c11 : u2.cell? ⟨wr.heap.size, 11, none⟩ = some (.int .i64 (xb.clause.need)) := cell_of_blk hx1 11
                      have c12 : u2.cell? ⟨wr.heap.size, 12, none⟩ = some (.slice As ns cs) := cell_of_blk hx1 12
                      have c13 : u2.cell? ⟨wr.heap.size, 13, none⟩ = some (.int .i64 0) := cell_of_blk hx1 13
                      have c14 : u2.cell? ⟨wr.heap.size, 14, none⟩ = some (.int .i64 0) := cell_of_blk hx1 14
                      have c15 : u2.cell? ⟨wr.heap.size, 15, none⟩ = some (.bool false) := cell_of_blk hx1 15
                      have c16 : u2.cell? ⟨wr.heap.size, 16, none⟩ = some (.bool xb.clause.fin) := cell_of_blk hx1 16
                      have c17 : u2.cell? ⟨wr.heap.size, 17, none⟩ = some (.int .i64 (xb.clause.pause)) := cell_of_blk hx1 17
                      have c18 : u2.cell? ⟨wr.heap.size, 18, none⟩ = some (.int .i64 (xb.clause.resume)) := cell_of_blk hx1 18
                      have c19 : u2.cell? ⟨wr.heap.size, 19, none⟩ = some (.int .i64 (xb.clause.value.num)) := cell_of_blk hx1 19
                      have c20 : u2.cell? ⟨wr.heap.size, 20, none⟩ = some (.int .i64 (xb.clause.value.den)) := cell_of_blk hx1 20
                      have c21 : u2.cell? ⟨wr.heap.size, 21, none⟩ = some (.int .i64 (xb.clause.unit)) := cell_of_blk hx1 21
                      have c22 : u2.cell? ⟨wr.heap.size, 22, none⟩ = some (.int .i64 (xb.clause.to_)) := cell_of_blk hx1 22
                      have c23 : u2.cell? ⟨wr.heap.size, 23, none⟩ = some (.bool false) := cell_of_blk hx1 23
                      have d0 : u2.cell? ⟨u1.heap.size, 0, none⟩ = some (.string ⟨xb.name.toArray⟩) := cell_of_blk hy1 0
                      have d1 : u2.cell? ⟨u1.heap.size, 1, none⟩ = some (.int .i64 xb.pos) := cell_of_blk hy1 1
                      have d2 : u2.cell? ⟨u1.heap.size, 2, none⟩ = some (.int .i64 xb.within.days) := cell_of_blk hy1 2
                      have d3 : u2.cell? ⟨u1.heap.size, 3, none⟩ = some (.bool xb.within.bus) := cell_of_blk hy1 3
                      have d4 : u2.cell? ⟨u1.heap.size, 4, none⟩ = some (.string ⟨xb.within.name.toArray⟩) := cell_of_blk hy1 4
                      have d5 : u2.cell? ⟨u1.heap.size, 5, none⟩ = some (.int .i64 xb.grace.days) := cell_of_blk hy1 5
                      have d6 : u2.cell? ⟨u1.heap.size, 6, none⟩ = some (.bool xb.grace.bus) := cell_of_blk hy1 6
                      have d7 : u2.cell? ⟨u1.heap.size, 7, none⟩ = some (.string ⟨xb.grace.name.toArray⟩) := cell_of_blk hy1 7
                      have d8 : u2.cell? ⟨u1.heap.size, 8, none⟩ = some (.int .i64 (xb.clause.kind)) := cell_of_blk hy1 8
                      have d9 : u2.cell? ⟨u1.heap.size, 9, none⟩ = some (.int .i64 (xb.clause.role)) := cell_of_blk hy1 9
                      have d10 : u2.cell? ⟨u1.heap.size, 10, none⟩ = some (.int .i64 (xb.clause.act)) := cell_of_blk hy1 10
                      have d11 : u2.cell? ⟨u1.heap.size, 11, none⟩ = some (.int .i64 (xb.clause.need)) := cell_of_blk hy1 11
                      have d12 : u2.cell? ⟨u1.heap.size, 12, none⟩ = some (.slice At' nt ct) := cell_of_blk hy1 12
                      have d13 : u2.cell? ⟨u1.heap.size, 13, none⟩ = some (.int .i64 0) := cell_of_blk hy1 13
                      have d14 : u2.cell? ⟨u1.heap.size, 14, none⟩ = some (.int .i64 0) := cell_of_blk hy1 14
                      have d15 : u2.cell? ⟨u1.heap.size, 15, none⟩ = some (.bool false) := cell_of_blk hy1 15
                      have d16 : u2.cell? ⟨u1.heap.size, 16, none⟩ = some (.bool xb.clause.fin) := cell_of_blk hy1 16
                      have d17 : u2.cell? ⟨u1.heap.size, 17, none⟩ = some (.int .i64 (xb.clause.pause)) := cell_of_blk hy1 17
                      have d18 : u2.cell? ⟨u1.heap.size, 18, none⟩ = some (.int .i64 (xb.clause.resume)) := cell_of_blk hy1 18
                      have d19 : u2.cell? ⟨u1.heap.size, 19, none⟩ = some (.int .i64 (xb.clause.value.num)) := cell_of_blk hy1 19
                      have d20 : u2.cell? ⟨u1.heap.size, 20, none⟩ = some (.int .i64 (xb.clause.value.den)) := cell_of_blk hy1 20
                      have d21 : u2.cell? ⟨u1.heap.size, 21, none⟩ = some (.int .i64 (xb.clause.unit)) := cell_of_blk hy1 21
                      have d22 : u2.cell? ⟨u1.heap.size, 22, none⟩ = some (.int .i64 (xb.clause.to_)) := cell_of_blk hy1 22
                      have d23 : u2.cell? ⟨u1.heap.size, 23, none⟩ = some (.bool false) := cell_of_blk hy1 23
                      have hs1 := ne_span xb.within.days xb.within.bus ⟨xb.within.name.toArray⟩
                      have hs2 := ne_span xb.grace.days xb.grace.bus ⟨xb.grace.name.toArray⟩
                      clear hx1 hy1 hu2 z15
                      go_wp2_with fail
                      refine HCL.out.mono ?_
                      rintro e w5 ⟨rfl, hb5⟩
                      have HB5 : Hid (Below u.heap.size u w5) := HB2.out.trans (hb5.mono HB2.out.size)
                      have hq17 : w5.cell? ⟨w.heap.size + 1, 17, none⟩ = some (.slice (some ⟨g2, o2, none⟩) b.clauses.length cbcla) := (HB5.out.cell (p := ⟨w.heap.size + 1, 17, none⟩) (by show w.heap.size + 1 < _; omega)).trans y17
                      go_wp2_with fail
                      go_roundw
                      case rel => exact ⟨j + 1, by go_num, by omega, HB5⟩
                      case measure => simp [intOf]; omega
                    · have hq17 : wr.cell? ⟨w.heap.size + 1, 17, none⟩ = some (.slice Bcla b.clauses.length cbcla) := (HBW.out.cell (p := ⟨w.heap.size + 1, 17, none⟩) (by show w.heap.size + 1 < _; omega)).trans y17
                      go_wp2_with fail
                      go_ret
                      exact ⟨rfl, HBL.out.trans (HBW.out.mono HBL.out.size)⟩
end Go.Proofs.YtdhjibnkebbejaaDoor.Rs
