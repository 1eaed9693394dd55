/-
  Dates, calendars and terms in plain Lean: what packages date and deadline compute.
-/
namespace Go.Proofs.YticlmkfifpkdpaaDoor.Dl
set_option linter.unusedVariables false
set_option linter.unusedSimpArgs false

structure Civil where
  y : Int
  m : Int
  d : Int
def before (m : Int) : Int := if m ≤ 1 then 0 else if m = 2 then 31 else if m = 3 then 59 else if m = 4 then 90 else if m = 5 then 120 else if m = 6 then 151 else if m = 7 then 181 else if m = 8 then 212 else if m = 9 then 243 else if m = 10 then 273 else if m = 11 then 304 else if m = 12 then 334 else 365
def leap (y : Int) : Bool := decide (y % 4 = 0) && (decide (y % 100 ≠ 0) || decide (y % 400 = 0))
def daysBefore (y m : Int) : Int := before m + if decide (m > 2) && leap y then 1 else 0
def leaps (y : Int) : Int := y / 4 - y / 100 + y / 400
def newYear (y : Int) : Int := (y - 1990) * 365 + leaps (y - 1) - leaps 1989
/-- The number of a date, if it exists. -/
def number (c : Civil) : Option Int :=
  if c.y < 1990 ∨ c.y > 2189 ∨ c.m < 1 ∨ c.m > 12 then none
  else if c.d < 1 ∨ c.d > daysBefore c.y (c.m + 1) - daysBefore c.y c.m then none
  else some (newYear c.y + daysBefore c.y c.m + c.d - 1)

theorem before_bd (m : Int) : 0 ≤ before m ∧ before m ≤ 365 := by
  unfold before
  repeat' split
  all_goals omega
theorem dB_bd (y m : Int) : 0 ≤ daysBefore y m ∧ daysBefore y m ≤ 366 := by
  have := before_bd m
  unfold daysBefore
  split <;> omega
theorem newYear_bd (y : Int) (h0 : 1990 ≤ y) (h1 : y ≤ 2189) : 0 ≤ newYear y ∧ newYear y ≤ 80000 := by unfold newYear leaps; omega
theorem newYear_start (q : Int) (h : 0 ≤ q) (h2 : q ≤ 200) : newYear (1990 + q) ≤ 366 * q := by unfold newYear leaps; omega
theorem newYear_mono (a b : Int) (h0 : 1990 ≤ a) (h : a < b) (h1 : b ≤ 2300) : newYear a + 365 ≤ newYear b := by unfold newYear leaps; omega
theorem newYear_next (y : Int) (h0 : 1990 ≤ y) (h1 : y ≤ 2189) : newYear (y + 1) = newYear y + daysBefore y 13 := by
  have hb : before 13 = 365 := rfl
  unfold daysBefore
  rw [hb]
  unfold newYear leaps leap
  by_cases h4 : y % 4 = 0 <;> by_cases h100 : y % 100 = 0 <;> by_cases h400 : y % 400 = 0 <;> simp [h4, h100, h400] <;> omega
theorem newYear_end : newYear 2190 = 73049 := by decide
theorem newYear_first : newYear 1990 = 0 := by decide
theorem daysBefore_one (y : Int) : daysBefore y 1 = 0 := by unfold daysBefore before; simp
theorem daysBefore_step (y m : Int) (h0 : 1 ≤ m) (h1 : m ≤ 12) : daysBefore y m < daysBefore y (m + 1) := by
  have hm : m = 1 ∨ m = 2 ∨ m = 3 ∨ m = 4 ∨ m = 5 ∨ m = 6 ∨ m = 7 ∨ m = 8 ∨ m = 9 ∨ m = 10 ∨ m = 11 ∨ m = 12 := by omega
  unfold daysBefore
  rcases hm with rfl | rfl | rfl | rfl | rfl | rfl | rfl | rfl | rfl | rfl | rfl | rfl <;> cases leap y <;> simp [before]
theorem daysBefore_mono (y : Int) : ∀ (k : Nat) (m : Int), 1 ≤ m → m + k ≤ 13 → daysBefore y m ≤ daysBefore y (m + k) := by
  intro k
  induction k with
  | zero => intro m _ _; simp
  | succ k ih =>
    intro m h0 h1
    have h2 := ih m h0 (by omega)
    have h3 := daysBefore_step y (m + k) (by omega) (by omega)
    have e : m + ((k + 1 : Nat) : Int) = m + k + 1 := by omega
    rw [e]; omega
theorem daysBefore_le (y m m' : Int) (h0 : 1 ≤ m) (h : m ≤ m') (h1 : m' ≤ 13) : daysBefore y m ≤ daysBefore y m' := by
  have := daysBefore_mono y (m' - m).toNat m h0 (by omega)
  rwa [show m + (((m' - m).toNat : Nat) : Int) = m' by omega] at this
theorem number_spec {c : Civil} {n : Int} (h : number c = some n) : 1990 ≤ c.y ∧ c.y ≤ 2189 ∧ 1 ≤ c.m ∧ c.m ≤ 12 ∧ 1 ≤ c.d ∧ c.d ≤ daysBefore c.y (c.m + 1) - daysBefore c.y c.m ∧ n = newYear c.y + daysBefore c.y c.m + c.d - 1 := by
  unfold number at h
  by_cases h1 : c.y < 1990 ∨ c.y > 2189 ∨ c.m < 1 ∨ c.m > 12
  · rw [if_pos h1] at h; cases h
  · rw [if_neg h1] at h
    by_cases h2 : c.d < 1 ∨ c.d > daysBefore c.y (c.m + 1) - daysBefore c.y c.m
    · rw [if_pos h2] at h; cases h
    · rw [if_neg h2] at h
      injection h with h
      exact ⟨by omega, by omega, by omega, by omega, by omega, by omega, h.symm⟩
theorem number_mk {c : Civil} (h1 : 1990 ≤ c.y) (h2 : c.y ≤ 2189) (h3 : 1 ≤ c.m) (h4 : c.m ≤ 12) (h5 : 1 ≤ c.d) (h6 : c.d ≤ daysBefore c.y (c.m + 1) - daysBefore c.y c.m) : number c = some (newYear c.y + daysBefore c.y c.m + c.d - 1) := by
  unfold number
  rw [if_neg (by omega), if_neg (by omega)]
/-- A day of a month lies in its year. -/
theorem in_year (y m d : Int) (h1 : 1990 ≤ y) (h2 : y ≤ 2189) (h3 : 1 ≤ m) (h4 : m ≤ 12) (h5 : 1 ≤ d) (h6 : d ≤ daysBefore y (m + 1) - daysBefore y m) :
    newYear y ≤ newYear y + daysBefore y m + d - 1 ∧ newYear y + daysBefore y m + d - 1 < newYear (y + 1) := by
  have := newYear_next y h1 h2
  have h7 := daysBefore_le y (m + 1) 13 (by omega) (by omega) (by omega)
  have h8 := (dB_bd y m).1
  omega
/-- Earlier in (year, month, day) is a smaller number. -/
theorem number_lt {a b : Civil} {n k : Int} (ha : number a = some n) (hb : number b = some k) (h : a.y < b.y ∨ a.y = b.y ∧ (a.m < b.m ∨ a.m = b.m ∧ a.d < b.d)) : n < k := by
  obtain ⟨a1, a2, a3, a4, a5, a6, a7⟩ := number_spec ha
  obtain ⟨b1, b2, b3, b4, b5, b6, b7⟩ := number_spec hb
  obtain ⟨ay, am, ad⟩ := a
  obtain ⟨by_, bm, bd⟩ := b
  dsimp only at *
  have ua := in_year ay am ad a1 a2 a3 a4 a5 a6
  have ub := in_year by_ bm bd b1 b2 b3 b4 b5 b6
  rcases h with h | ⟨rfl, h | ⟨rfl, h⟩⟩
  · rcases (by omega : ay + 1 = by_ ∨ ay + 1 < by_) with h' | h'
    · rw [h'] at ua; omega
    · have := newYear_mono (ay + 1) by_ (by omega) h' (by omega); omega
  · have := daysBefore_le ay (am + 1) bm (by omega) (by omega) (by omega)
    omega
  · omega
theorem number_le {a b : Civil} {n k : Int} (ha : number a = some n) (hb : number b = some k) (h : n ≤ k) : a.y < b.y ∨ a.y = b.y ∧ (a.m < b.m ∨ a.m = b.m ∧ a.d ≤ b.d) := by
  rcases (by omega : (a.y < b.y ∨ a.y = b.y ∧ (a.m < b.m ∨ a.m = b.m ∧ a.d ≤ b.d)) ∨ (b.y < a.y ∨ b.y = a.y ∧ (b.m < a.m ∨ b.m = a.m ∧ b.d < a.d))) with h1 | h1
  · exact h1
  · have := number_lt hb ha h1
    omega
theorem number_inj {a b : Civil} {n : Int} (ha : number a = some n) (hb : number b = some n) : a = b := by
  have h1 := number_le ha hb (Int.le_refl _)
  have h2 := number_le hb ha (Int.le_refl _)
  obtain ⟨ay, am, ad⟩ := a
  obtain ⟨by_, bm, bd⟩ := b
  dsimp only at h1 h2
  have e1 : ay = by_ := by omega
  have e2 : am = bm := by omega
  have e3 : ad = bd := by omega
  rw [e1, e2, e3]
theorem number_rng {a : Civil} {n : Int} (ha : number a = some n) : 0 ≤ n ∧ n ≤ 73048 := by
  obtain ⟨a1, a2, a3, a4, a5, a6, a7⟩ := number_spec ha
  have ua := in_year a.y a.m a.d a1 a2 a3 a4 a5 a6
  have h0 := newYear_first
  have h1 := newYear_end
  have h2 : newYear 1990 ≤ newYear a.y := by
    rcases (by omega : (1990 : Int) = a.y ∨ 1990 < a.y) with h | h
    · rw [h]; exact Int.le_refl _
    · have := newYear_mono 1990 a.y (by omega) h (by omega); omega
  have h3 : newYear (a.y + 1) ≤ newYear 2190 := by
    rcases (by omega : a.y + 1 = 2190 ∨ a.y + 1 < 2190) with h | h
    · rw [h]; exact Int.le_refl _
    · have := newYear_mono (a.y + 1) 2190 (by omega) h (by omega); omega
  omega

/-- A date some months later (its number). -/
def later (c : Civil) (n : Int) : Option Int :=
  let t := c.y * 12 + c.m - 1 + n
  if 2189 < t / 12 then none
  else some (newYear (t / 12) + daysBefore (t / 12) (t % 12 + 1) + min c.d (daysBefore (t / 12) (t % 12 + 1 + 1) - daysBefore (t / 12) (t % 12 + 1)) - 1)
open Classical in
/-- The day some months later. -/
noncomputable def months (d n : Int) : Option Int := if h : ∃ c, number c = some d then later h.choose n else none
theorem months_eq {c : Civil} {d : Int} (h : number c = some d) (n : Int) : months d n = later c n := by
  have hx : ∃ c, number c = some d := ⟨c, h⟩
  unfold months
  rw [dif_pos hx, number_inj hx.choose_spec h]
theorem months_ex {d n b : Int} (h : months d n = some b) : ∃ c, number c = some d ∧ later c n = some b := by
  unfold months at h
  split at h
  · rename_i hx; exact ⟨_, hx.choose_spec, h⟩
  · cases h
/-- A later date is the number of a date. -/
theorem later_num {c : Civil} {d n b : Int} (hc : number c = some d) (hn : 0 ≤ n) (h : later c n = some b) :
    number ⟨(c.y * 12 + c.m - 1 + n) / 12, (c.y * 12 + c.m - 1 + n) % 12 + 1, min c.d (daysBefore ((c.y * 12 + c.m - 1 + n) / 12) ((c.y * 12 + c.m - 1 + n) % 12 + 1 + 1) - daysBefore ((c.y * 12 + c.m - 1 + n) / 12) ((c.y * 12 + c.m - 1 + n) % 12 + 1))⟩ = some b := by
  obtain ⟨a1, a2, a3, a4, a5, a6, a7⟩ := number_spec hc
  unfold later at h
  dsimp only at h
  split at h
  · cases h
  · injection h with h
    have hs := daysBefore_step ((c.y * 12 + c.m - 1 + n) / 12) ((c.y * 12 + c.m - 1 + n) % 12 + 1) (by omega) (by omega)
    rw [number_mk (by dsimp only; omega) (by dsimp only; omega) (by dsimp only; omega) (by dsimp only; omega) (by dsimp only; omega) (by dsimp only; omega)]
    rw [h]
theorem months_mono {d d' n b' : Int} (hn : 0 ≤ n) (hd : d ≤ d') (hx : ∃ c, number c = some d) (h : months d' n = some b') : ∃ b, months d n = some b ∧ b ≤ b' := by
  obtain ⟨c', hc', hl'⟩ := months_ex h
  obtain ⟨c, hc⟩ := hx
  rw [months_eq hc]
  have hle := number_le hc hc' hd
  obtain ⟨a1, a2, a3, a4, a5, a6, a7⟩ := number_spec hc
  obtain ⟨b1, b2, b3, b4, b5, b6, b7⟩ := number_spec hc'
  have h2' : ¬ 2189 < (c'.y * 12 + c'.m - 1 + n) / 12 := by
    intro hh; unfold later at hl'; dsimp only at hl'; rw [if_pos hh] at hl'; cases hl'
  obtain ⟨b, hb⟩ : ∃ b, later c n = some b := ⟨_, if_neg (by omega)⟩
  refine ⟨b, hb, ?_⟩
  have n1 := later_num hc hn hb
  have n2 := later_num hc' hn hl'
  generalize ht : c.y * 12 + c.m - 1 + n = t at n1
  generalize ht' : c'.y * 12 + c'.m - 1 + n = t' at n2
  rcases (by omega : b ≤ b' ∨ b' < b) with h | h
  · exact h
  exfalso
  have key := number_le n2 n1 (by omega)
  dsimp only at key
  rcases (by omega : t < t' ∨ t = t') with hlt | heq
  · rcases (by omega : t / 12 < t' / 12 ∨ (t / 12 = t' / 12 ∧ t % 12 < t' % 12)) with h1 | h1
    · omega
    · omega
  · subst heq
    have : c.d ≤ c'.d := by omega
    rcases key with k | ⟨_, k | ⟨_, k⟩⟩
    · omega
    · omega
    · have h3 : min c.d (daysBefore (t / 12) (t % 12 + 1 + 1) - daysBefore (t / 12) (t % 12 + 1)) ≤ min c'.d (daysBefore (t / 12) (t % 12 + 1 + 1) - daysBefore (t / 12) (t % 12 + 1)) := by omega
      have h4 : min c.d (daysBefore (t / 12) (t % 12 + 1 + 1) - daysBefore (t / 12) (t % 12 + 1)) = min c'.d (daysBefore (t / 12) (t % 12 + 1 + 1) - daysBefore (t / 12) (t % 12 + 1)) := by omega
      rw [h4] at n1
      rw [n1] at n2
      injection n2 with n2
      omega
structure Cal where
  wk : List Bool
  hol : List Int
def isDay (d : Int) : Bool := decide (0 ≤ d) && decide (d ≤ 73048)
/-- Days in increasing order behind a last one. -/
def chain (last : Int) : List Int → Bool
  | [] => true
  | h :: l => !(decide (h ≤ last) || decide (73048 < h)) && chain h l
def Cal.ok (c : Cal) : Bool := c.wk.contains false && decide (c.hol.length ≤ 400) && chain (-1) c.hol
/-- The weekday is off. -/
def off (c : Cal) (d : Int) : Bool := c.wk.getD (d % 7).toNat false
/-- A business day. -/
def biz (c : Cal) (d : Int) : Bool := !off c d && !c.hol.contains d
/-- How many days of k from a on are true. -/
def num (p : Int → Bool) (a : Int) : Nat → Nat
  | 0 => 0
  | k + 1 => num p a k + if p (a + k) then 1 else 0
theorem num_add (p : Int → Bool) (a : Int) (k m : Nat) : num p a (k + m) = num p a k + num p (a + k) m := by
  induction m with
  | zero => rfl
  | succ m ih =>
    have e : a + ((k + m : Nat) : Int) = a + k + m := by omega
    have e1 : num p a (k + (m + 1)) = num p a (k + m) + if p (a + ((k + m : Nat) : Int)) then 1 else 0 := rfl
    have e2 : num p (a + k) (m + 1) = num p (a + k) m + if p (a + k + m) then 1 else 0 := rfl
    rw [e1, e2, ih, e]; omega
theorem num_le (p : Int → Bool) (a : Int) (k : Nat) : num p a k ≤ k := by
  induction k with
  | zero => exact Nat.le_refl _
  | succ k ih => show num p a k + _ ≤ _; split <;> omega
theorem num_mono (p : Int → Bool) (a : Int) {k m : Nat} (h : k ≤ m) : num p a k ≤ num p a m := by
  have := num_add p a k (m - k)
  rw [show k + (m - k) = m by omega] at this
  omega
theorem num_congr {p q : Int → Bool} {a : Int} {k : Nat} (h : ∀ d, a ≤ d → d < a + k → p d = q d) : num p a k = num q a k := by
  induction k with
  | zero => rfl
  | succ k ih =>
    show num p a k + _ = num q a k + _
    rw [ih (fun d h1 h2 => h d h1 (by omega)), h (a + k) (by omega) (by omega)]
theorem num_shift {p q : Int → Bool} {a b : Int} {k : Nat} (h : ∀ i : Int, 0 ≤ i → i < k → p (a + i) = q (b + i)) : num p a k = num q b k := by
  induction k with
  | zero => rfl
  | succ k ih =>
    show num p a k + _ = num q b k + _
    rw [ih (fun d h1 h2 => h d h1 (by omega)), h k (by omega) (by omega)]
theorem num_split (p q : Int → Bool) (a : Int) (k : Nat) : num p a k = num (fun d => p d && q d) a k + num (fun d => p d && !q d) a k := by
  induction k with
  | zero => rfl
  | succ k ih =>
    have e1 : ∀ r : Int → Bool, num r a (k + 1) = num r a k + if r (a + k) then 1 else 0 := fun _ => rfl
    rw [e1, e1, e1, ih]
    cases hp : p (a + k) <;> cases hq : q (a + k) <;> simp [hp, hq] <;> omega
/-- The working weekdays of a week. -/
def open_ (c : Cal) : Nat := (c.wk.filter (fun b => !b)).length
theorem off_shift (c : Cal) (d k : Int) : off c (d + 7 * k) = off c d := by
  unfold off
  rw [show (d + 7 * k) % 7 = d % 7 by omega]
theorem week_open (c : Cal) (hw : c.wk.length = 7) (a : Int) : num (fun d => !off c d) a 7 = open_ c := by
  obtain ⟨wk, hol⟩ := c
  dsimp only at hw
  obtain ⟨b0, b1, b2, b3, b4, b5, b6, rfl⟩ : ∃ b0 b1 b2 b3 b4 b5 b6, wk = [b0, b1, b2, b3, b4, b5, b6] := by
    match wk, hw with
    | [b0, b1, b2, b3, b4, b5, b6], _ => exact ⟨_, _, _, _, _, _, _, rfl⟩
  have h7 : a % 7 = 0 ∨ a % 7 = 1 ∨ a % 7 = 2 ∨ a % 7 = 3 ∨ a % 7 = 4 ∨ a % 7 = 5 ∨ a % 7 = 6 := by omega
  have ho : open_ ⟨[b0, b1, b2, b3, b4, b5, b6], hol⟩ = (if b0 then 0 else 1) + (if b1 then 0 else 1) + (if b2 then 0 else 1) + (if b3 then 0 else 1) + (if b4 then 0 else 1) + (if b5 then 0 else 1) + (if b6 then 0 else 1) := by
    unfold open_
    cases b0 <;> cases b1 <;> cases b2 <;> cases b3 <;> cases b4 <;> cases b5 <;> cases b6 <;> rfl
  rw [ho]
  have e : ∀ (r : Nat) (i : Nat), a % 7 = r → off ⟨[b0, b1, b2, b3, b4, b5, b6], hol⟩ (a + (i : Int)) = [b0, b1, b2, b3, b4, b5, b6].getD ((r + i) % 7) false := by
    intro r i hr
    unfold off
    rw [show (a + (i : Int)) % 7 = (((r + i) % 7 : Nat) : Int) by omega, Int.toNat_natCast]
  simp only [num]
  rcases h7 with h | h | h | h | h | h | h
  · simp only [e 0 _ h]; simp; cases b0 <;> cases b1 <;> cases b2 <;> cases b3 <;> cases b4 <;> cases b5 <;> cases b6 <;> rfl
  · simp only [e 1 _ h]; simp; cases b0 <;> cases b1 <;> cases b2 <;> cases b3 <;> cases b4 <;> cases b5 <;> cases b6 <;> rfl
  · simp only [e 2 _ h]; simp; cases b0 <;> cases b1 <;> cases b2 <;> cases b3 <;> cases b4 <;> cases b5 <;> cases b6 <;> rfl
  · simp only [e 3 _ h]; simp; cases b0 <;> cases b1 <;> cases b2 <;> cases b3 <;> cases b4 <;> cases b5 <;> cases b6 <;> rfl
  · simp only [e 4 _ h]; simp; cases b0 <;> cases b1 <;> cases b2 <;> cases b3 <;> cases b4 <;> cases b5 <;> cases b6 <;> rfl
  · simp only [e 5 _ h]; simp; cases b0 <;> cases b1 <;> cases b2 <;> cases b3 <;> cases b4 <;> cases b5 <;> cases b6 <;> rfl
  · simp only [e 6 _ h]; simp; cases b0 <;> cases b1 <;> cases b2 <;> cases b3 <;> cases b4 <;> cases b5 <;> cases b6 <;> rfl
theorem weeks_open (c : Cal) (hw : c.wk.length = 7) (a : Int) (k : Nat) : num (fun d => !off c d) a (k * 7) = k * open_ c := by
  induction k with
  | zero => simp [num]
  | succ k ih =>
    rw [show (k + 1) * 7 = k * 7 + 7 by omega, num_add, ih, week_open c hw, Nat.succ_mul]
/-- The holidays of a list from a before b on working weekdays. -/
def hin (c : Cal) (a b : Int) (l : List Int) : Nat := (l.filter (fun h => decide (a ≤ h) && decide (h < b) && !off c h)).length
theorem chain_lt {last : Int} {l : List Int} (h : chain last l = true) : ∀ x ∈ l, last < x ∧ x ≤ 73048 := by
  induction l generalizing last with
  | nil => intro x hx; cases hx
  | cons y l ih =>
    simp only [chain, Bool.and_eq_true, Bool.not_eq_true', Bool.or_eq_false_iff, decide_eq_false_iff_not] at h
    intro x hx
    rcases List.mem_cons.1 hx with rfl | hx
    · omega
    · have := ih h.2 x hx; omega
theorem hin_zero (c : Cal) {a b : Int} {l : List Int} (h : ∀ x ∈ l, ¬ (a ≤ x ∧ x < b)) : hin c a b l = 0 := by
  unfold hin
  rw [List.length_eq_zero_iff, List.filter_eq_nil_iff]
  intro x hx
  have := h x hx
  simp only [Bool.and_eq_true, decide_eq_true_eq, not_and]
  intro h1; exact absurd h1 this
theorem hin_cons (c : Cal) (a b h : Int) (l : List Int) : hin c a b (h :: l) = (if decide (a ≤ h) && decide (h < b) && !off c h then 1 else 0) + hin c a b l := by
  unfold hin
  rw [List.filter_cons]
  split
  · rw [List.length_cons]; omega
  · omega
theorem num_one {p : Int → Bool} {a : Int} {h : Int} {k : Nat} : num (fun d => p d && decide (d = h)) a k = if decide (a ≤ h) && decide (h < a + k) && p h then 1 else 0 := by
  induction k with
  | zero =>
    show 0 = _
    rw [if_neg]
    simp; omega
  | succ k ih =>
    show num _ a k + _ = _
    rw [ih]
    by_cases h1 : a + (k : Int) = h
    · subst h1
      have e1 : (decide (a ≤ a + (k : Int)) && decide (a + (k : Int) < a + (k : Int)) && p (a + k)) = false := by
        rw [show decide (a + (k : Int) < a + (k : Int)) = false from decide_eq_false (by omega)]; simp
      have e2 : (decide (a ≤ a + (k : Int)) && decide (a + (k : Int) < a + ((k + 1 : Nat) : Int)) && p (a + k)) = p (a + k) := by
        rw [show decide (a ≤ a + (k : Int)) = true from decide_eq_true (by omega), show decide (a + (k : Int) < a + ((k + 1 : Nat) : Int)) = true from decide_eq_true (by omega)]; rfl
      rw [e1, e2]; simp
    · have e0 : (p (a + k) && decide (a + (k : Int) = h)) = false := by simp [h1]
      have e1 : decide (h < a + ((k + 1 : Nat) : Int)) = decide (h < a + (k : Int)) := by
        exact decide_eq_decide.2 (by omega)
      simp only [e0, e1]; simp
/-- Days of a strictly increasing list, counted. -/
theorem num_hol (c : Cal) {last : Int} {l : List Int} (h : chain last l = true) (a : Int) (k : Nat) : num (fun d => !off c d && l.contains d) a k = hin c a (a + k) l := by
  induction l generalizing last with
  | nil =>
    show _ = 0
    have : num (fun d => !off c d && ([] : List Int).contains d) a k = num (fun _ => false) a k := num_congr (fun d _ _ => by simp)
    rw [this]
    clear this
    induction k with
    | zero => rfl
    | succ k ih => show num _ a k + 0 = 0; rw [ih]
  | cons y l ih =>
    have hc := h
    simp only [chain, Bool.and_eq_true, Bool.not_eq_true', Bool.or_eq_false_iff, decide_eq_false_iff_not] at h
    rw [hin_cons, ← ih h.2, num_split (fun d => !off c d && (y :: l).contains d) (fun d => decide (d = y))]
    have e1 : num (fun d => !off c d && (y :: l).contains d && decide (d = y)) a k = num (fun d => !off c d && decide (d = y)) a k := num_congr (fun d _ _ => by
      by_cases hd : d = y
      · simp [hd]
      · simp [hd])
    have e2 : num (fun d => !off c d && (y :: l).contains d && !decide (d = y)) a k = num (fun d => !off c d && l.contains d) a k := num_congr (fun d _ _ => by
      by_cases hd : d = y
      · subst hd
        have hn : ¬ d ∈ l := fun hm => by have := (chain_lt h.2 d hm).1; omega
        simp [hn]
      · simp [hd])
    rw [e1, e2, num_one (p := fun d => !off c d)]
/-- Business days are working weekdays without the holidays among them. -/
theorem num_biz (c : Cal) (hc : c.ok = true) (a : Int) (k : Nat) : num (biz c) a k + hin c a (a + k) c.hol = num (fun d => !off c d) a k := by
  unfold Cal.ok at hc
  simp only [Bool.and_eq_true] at hc
  rw [← num_hol c hc.2, num_split (fun d => !off c d) (fun d => c.hol.contains d)]
  have : num (biz c) a k = num (fun d => !off c d && !c.hol.contains d) a k := rfl
  omega
/-- The number of business days from a before b, as the program counts. -/
theorem count_eq (c : Cal) (hc : c.ok = true) (hw : c.wk.length = 7) (a b : Int) (h : a ≤ b) :
    ((num (biz c) a (b - a).toNat : Nat) : Int) = (b - a) / 7 * open_ c + num (fun d => !off c d) (a + (b - a) / 7 * 7) (b - (a + (b - a) / 7 * 7)).toNat - hin c a b c.hol := by
  have h1 := num_biz c hc a (b - a).toNat
  rw [show a + (((b - a).toNat : Nat) : Int) = b by omega] at h1
  obtain ⟨k, hk⟩ : ∃ k : Nat, (b - a) / 7 = (k : Int) := ⟨((b - a) / 7).toNat, by omega⟩
  have h2 := num_add (fun d => !off c d) a (k * 7) (b - (a + (b - a) / 7 * 7)).toNat
  rw [weeks_open c hw, show k * 7 + (b - (a + (b - a) / 7 * 7)).toNat = (b - a).toNat by omega, show a + ((k * 7 : Nat) : Int) = a + (b - a) / 7 * 7 by omega] at h2
  have h3 : ((k * open_ c : Nat) : Int) = (b - a) / 7 * open_ c := by rw [hk]; exact Int.natCast_mul _ _
  omega
/-- The least number below n with a property, else n. -/
def least (p : Nat → Bool) (n : Nat) : Nat := (List.range n).findIdx p
theorem least_le (p : Nat → Bool) (n : Nat) : least p n ≤ n := by
  unfold least; have := List.findIdx_le_length (xs := List.range n) (p := p); simpa using this
theorem least_lt {p : Nat → Bool} {n i : Nat} (h : i < least p n) : p i = false := by
  unfold least at h
  have := List.not_of_lt_findIdx h
  have h2 : i < n := by have := least_le p n; unfold least at this; omega
  simpa using this
theorem least_yes {p : Nat → Bool} {n : Nat} (h : least p n < n) : p (least p n) = true := by
  have h2 : least p n < (List.range n).length := by simpa using h
  have h3 : p (List.range n)[least p n] = true := List.findIdx_getElem (p := p) (w := h2)
  rwa [List.getElem_range] at h3
theorem least_eq {p : Nat → Bool} {n i : Nat} (hi : i ≤ n) (h1 : ∀ j, j < i → p j = false) (h2 : i < n → p i = true) : least p n = i := by
  rcases Nat.lt_trichotomy (least p n) i with h | h | h
  · have h3 := h1 _ h; rw [least_yes (p := p) (n := n) (by omega)] at h3; cases h3
  · exact h
  · have h3 := least_le p n
    have := least_lt h; rw [h2 (by omega)] at this; cases this
/-- The n-th business day from a day on. -/
def search (c : Cal) (a n : Int) : Option Int :=
  let k := (73049 - a).toNat
  let i := least (fun i => decide (n ≤ (num (biz c) a (i + 1) : Nat))) k
  if i = k then none else some (a + i)
/-- The day that is some business days later. -/
def add (c : Cal) (d n : Int) : Option Int := if n = 0 then search c d 1 else search c (d + 1) n
theorem search_iff {c : Cal} {a n r : Int} (ha : a ≤ 73049) : search c a n = some r ↔ a ≤ r ∧ r ≤ 73048 ∧ n ≤ (num (biz c) a ((r - a).toNat + 1) : Nat) ∧ ∀ j : Nat, (j : Int) < r - a → ¬ n ≤ (num (biz c) a (j + 1) : Nat) := by
  unfold search
  dsimp only
  constructor
  · intro h
    split at h
    · cases h
    · rename_i hne
      injection h with h
      generalize hi : least (fun i => decide (n ≤ (num (biz c) a (i + 1) : Nat))) (73049 - a).toNat = i at *
      have hle := least_le (fun i => decide (n ≤ (num (biz c) a (i + 1) : Nat))) (73049 - a).toNat
      rw [hi] at hle
      have hy := least_yes (p := fun i => decide (n ≤ (num (biz c) a (i + 1) : Nat))) (n := (73049 - a).toNat) (by rw [hi]; omega)
      rw [hi] at hy
      refine ⟨by omega, by omega, ?_, ?_⟩
      · rw [← h, show (a + (i : Int) - a).toNat = i by omega]
        simpa using hy
      · intro j hj
        have := least_lt (p := fun i => decide (n ≤ (num (biz c) a (i + 1) : Nat))) (n := (73049 - a).toNat) (i := j) (by rw [hi]; omega)
        simpa using this
  · rintro ⟨h1, h2, h3, h4⟩
    have e : least (fun i => decide (n ≤ (num (biz c) a (i + 1) : Nat))) (73049 - a).toNat = (r - a).toNat := least_eq (by omega)
      (fun j hj => by
        have := h4 j (by omega)
        simpa using this)
      (fun _ => by simpa using h3)
    rw [e, if_neg (by omega)]
    congr 1
    omega
/-- In short: the day is the least one with enough business days. -/
theorem search_mk {c : Cal} {a n r : Int} (h1 : a ≤ r) (h2 : r ≤ 73048) (h3 : n ≤ (num (biz c) a ((r - a).toNat + 1) : Nat)) (h4 : (num (biz c) a (r - a).toNat : Nat) < n) (hn : 0 < n) : search c a n = some r := by
  rw [search_iff (by omega)]
  refine ⟨h1, h2, h3, fun j hj => ?_⟩
  have := num_mono (biz c) a (k := j + 1) (m := (r - a).toNat) (by omega)
  omega
theorem search_spec {c : Cal} {a n r : Int} (ha : a ≤ 73049) (hn : 0 < n) (h : search c a n = some r) : a ≤ r ∧ r ≤ 73048 ∧ biz c r = true ∧ (num (biz c) a (r - a).toNat : Nat) + 1 = n := by
  obtain ⟨h1, h2, h3, h4⟩ := (search_iff ha).1 h
  have h5 : ((num (biz c) a (r - a).toNat : Nat) : Int) < n := by
    rcases (by omega : (r - a).toNat = 0 ∨ 0 < (r - a).toNat) with h0 | h0
    · rw [h0]; show ((0 : Nat) : Int) < n; omega
    · have := h4 ((r - a).toNat - 1) (by omega)
      rw [show (r - a).toNat - 1 + 1 = (r - a).toNat by omega] at this
      omega
  have h6 : num (biz c) a ((r - a).toNat + 1) = num (biz c) a (r - a).toNat + if biz c (a + ((r - a).toNat : Nat)) then 1 else 0 := rfl
  rw [show a + (((r - a).toNat : Nat) : Int) = r by omega] at h6
  cases hb : biz c r
  · rw [hb] at h6; simp at h6; omega
  · rw [hb] at h6; simp at h6
    exact ⟨h1, h2, rfl, by omega⟩
/-- There is a day if enough business days are left. -/
theorem search_ex {c : Cal} {a n r : Int} (hn : 0 < n) (h1 : a ≤ r) (h2 : r ≤ 73048) (h3 : n ≤ (num (biz c) a ((r - a).toNat + 1) : Nat)) : ∃ q, search c a n = some q ∧ q ≤ r := by
  have hle : least (fun i => decide (n ≤ (num (biz c) a (i + 1) : Nat))) (73049 - a).toNat ≤ (r - a).toNat := by
    rcases Nat.lt_or_ge (r - a).toNat (least (fun i => decide (n ≤ (num (biz c) a (i + 1) : Nat))) (73049 - a).toNat) with h | h
    · have := least_lt h; simp at this; omega
    · exact h
  refine ⟨_, if_neg (by omega), by omega⟩
theorem search_mono {c : Cal} {a a' n r' : Int} (hn : 0 < n) (ha : a ≤ a') (ha' : a' ≤ 73049) (h : search c a' n = some r') : ∃ r, search c a n = some r ∧ r ≤ r' := by
  obtain ⟨h1, h2, h3, h4⟩ := (search_iff ha').1 h
  refine search_ex hn (by omega) h2 ?_
  have := num_add (biz c) a (a' - a).toNat ((r' - a').toNat + 1)
  rw [show (a' - a).toNat + ((r' - a').toNat + 1) = (r' - a).toNat + 1 by omega, show a + (((a' - a).toNat : Nat) : Int) = a' by omega] at this
  omega
theorem add_mono {c : Cal} {d d' n r' : Int} (hn : 0 ≤ n) (hd : d ≤ d') (hd' : d' ≤ 73048) (h : add c d' n = some r') : ∃ r, add c d n = some r ∧ r ≤ r' := by
  unfold add at h ⊢
  split at h
  · rw [if_pos (by assumption)]; exact search_mono (by omega) hd (by omega) h
  · rw [if_neg (by assumption)]; exact search_mono (by omega) (by omega) (by omega) h
theorem add_rng {c : Cal} {d n r : Int} (hn : 0 ≤ n) (hd' : d ≤ 73048) (h : add c d n = some r) : d ≤ r ∧ r ≤ 73048 ∧ biz c r = true := by
  unfold add at h
  split at h
  · obtain ⟨h1, h2, h3, _⟩ := search_spec (by omega) (by omega) h; exact ⟨h1, h2, h3⟩
  · obtain ⟨h1, h2, h3, _⟩ := search_spec (by omega) (by omega) h; exact ⟨by omega, h2, h3⟩
theorem add_zero_biz {c : Cal} {d : Int} (hd' : d ≤ 73048) (hb : biz c d = true) : add c d 0 = some d := by
  unfold add
  rw [if_pos rfl]
  refine search_mk (Int.le_refl _) hd' ?_ ?_ (by omega)
  · rw [show (d - d).toNat = 0 by omega]
    show (1 : Int) ≤ ((0 + if biz c (d + ((0 : Nat) : Int)) then 1 else 0 : Nat) : Int)
    rw [show d + ((0 : Nat) : Int) = d by omega, hb]; simp
  · rw [show (d - d).toNat = 0 by omega]; show ((0 : Nat) : Int) < 1; omega
/-- Business days that are added in two steps. -/
theorem search_two {c : Cal} {a m n r : Int} (hm : 0 < m) (hn : 0 < n) (ha : a ≤ 73049) (h : search c a m = some r) : search c (r + 1) n = search c a (m + n) := by
  obtain ⟨h1, h2, h3, h4⟩ := search_spec ha hm h
  have hs : ∀ k : Nat, num (biz c) a ((r + 1 - a).toNat + k) = m.toNat + num (biz c) (r + 1) k := by
    intro k
    have e := num_add (biz c) a (r + 1 - a).toNat k
    rw [show a + (((r + 1 - a).toNat : Nat) : Int) = r + 1 by omega] at e
    have e2 : num (biz c) a ((r - a).toNat + 1) = num (biz c) a (r - a).toNat + if biz c (a + ((r - a).toNat : Nat)) then 1 else 0 := rfl
    rw [show a + (((r - a).toNat : Nat) : Int) = r by omega, h3, show (r - a).toNat + 1 = (r + 1 - a).toNat by omega] at e2
    simp at e2
    omega
  cases hq : search c (r + 1) n with
  | some q =>
    obtain ⟨q1, q2, q3, q4⟩ := search_spec (by omega) hn hq
    refine (search_mk (by omega) q2 ?_ ?_ (by omega)).symm
    · have e := hs ((q - (r + 1)).toNat + 1)
      rw [show (r + 1 - a).toNat + ((q - (r + 1)).toNat + 1) = (q - a).toNat + 1 by omega] at e
      have e2 : num (biz c) (r + 1) ((q - (r + 1)).toNat + 1) = num (biz c) (r + 1) (q - (r + 1)).toNat + if biz c (r + 1 + ((q - (r + 1)).toNat : Nat)) then 1 else 0 := rfl
      rw [show r + 1 + (((q - (r + 1)).toNat : Nat) : Int) = q by omega, q3] at e2
      simp at e2
      omega
    · have e := hs (q - (r + 1)).toNat
      rw [show (r + 1 - a).toNat + (q - (r + 1)).toNat = (q - a).toNat by omega] at e
      omega
  | none =>
    cases hq2 : search c a (m + n) with
    | none => rfl
    | some q =>
      exfalso
      obtain ⟨q1, q2, q3, q4⟩ := search_spec ha (by omega) hq2
      have hrq : r < q := by
        rcases (by omega : r < q ∨ q ≤ r) with h | h
        · exact h
        · have := num_mono (biz c) a (k := (q - a).toNat) (m := (r - a).toNat) (by omega); omega
      obtain ⟨q', hq', _⟩ := search_ex (c := c) (a := r + 1) (n := n) (r := q) hn (by omega) q2 (by
        have e := hs ((q - (r + 1)).toNat + 1)
        rw [show (r + 1 - a).toNat + ((q - (r + 1)).toNat + 1) = (q - a).toNat + 1 by omega] at e
        have e2 : num (biz c) a ((q - a).toNat + 1) = num (biz c) a (q - a).toNat + if biz c (a + ((q - a).toNat : Nat)) then 1 else 0 := rfl
        rw [show a + (((q - a).toNat : Nat) : Int) = q by omega, q3] at e2
        simp at e2
        omega)
      rw [hq] at hq'; cases hq'
theorem search_none {c : Cal} {a m n : Int} (hm : 0 < m) (hn : 0 < n) (ha : a ≤ 73049) (h : search c a m = none) : search c a (m + n) = none := by
  cases hq : search c a (m + n) with
  | none => rfl
  | some q =>
    exfalso
    obtain ⟨h1, h2, h3, h4⟩ := (search_iff ha).1 hq
    obtain ⟨q', hq', _⟩ := search_ex (c := c) (a := a) (n := m) (r := q) hm h1 h2 (by omega)
    rw [h] at hq'; cases hq'
/-- From a business day on: m business days and then n + 1 are m + n + 1. -/
theorem add_two {c : Cal} {d m n : Int} (hd' : d ≤ 73048) (hm : 0 ≤ m) (hn : 0 ≤ n) (hb : biz c d = true) : (add c d m).bind (fun r => add c r (n + 1)) = add c d (m + n + 1) := by
  rcases (by omega : m = 0 ∨ 0 < m) with rfl | h
  · rw [add_zero_biz hd' hb]
    show add c d (n + 1) = _
    rw [show (0 : Int) + n + 1 = n + 1 by omega]
  · unfold add
    rw [if_neg (by omega), if_neg (by omega)]
    cases hs : search c (d + 1) m with
    | none =>
      rw [show m + n + 1 = m + (n + 1) by omega, search_none h (by omega) (by omega) hs]; rfl
    | some r =>
      show (if n + 1 = 0 then _ else search c (r + 1) (n + 1)) = _
      rw [if_neg (by omega), search_two h (by omega) (by omega) hs]
      congr 1; omega
end Go.Proofs.YticlmkfifpkdpaaDoor.Dl
