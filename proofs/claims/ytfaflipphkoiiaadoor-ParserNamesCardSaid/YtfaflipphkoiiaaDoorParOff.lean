/-
  The items of a tree stand in the text at their offsets, in order.
-/
import Derived.Test.YtfaflipphkoiiaaDoorParMono
import Derived.Test.YtfaflipphkoiiaaDoorParStands
namespace Go.Proofs.YtfaflipphkoiiaaDoor.Pr
open Lx (Tok Toks skip skip_drop gapLen_le tok_len)
set_option linter.unusedVariables false

/-- Tokens stand in a text in order, from an offset on. -/
def TokAt (s : Bytes) : Nat → List Tok → Prop
  | _, [] => True
  | a, t :: ts => a ≤ t.pos ∧ t.pos + t.text.length ≤ s.length ∧ (s.drop t.pos).take t.text.length = t.text ∧ TokAt s (t.pos + t.text.length) ts
theorem TokAt.le {s : Bytes} {a b : Nat} {ts : List Tok} (h : TokAt s b ts) (hab : a ≤ b) : TokAt s a ts := by
  cases ts with
  | nil => trivial
  | cons t ts => exact ⟨Nat.le_trans hab h.1, h.2⟩
theorem TokAt.suf {s : Bytes} {a : Nat} {ts us : List Tok} (h : TokAt s a ts) (hs : us <:+ ts) : TokAt s a us := by
  induction ts generalizing a with
  | nil => rw [List.suffix_nil.1 hs]; trivial
  | cons t ts ih =>
    rcases List.suffix_cons_iff.1 hs with e | e
    · rw [e]; exact h
    · exact ih (h.2.2.2.le (by have := h.1; omega)) e
theorem tokAt_of_toks (s : Bytes) (ts : List Tok) : ∀ q, q ≤ s.length → Toks ts (s.drop q) q → TokAt s q ts := by
  induction ts with
  | nil => intro q _ _; trivial
  | cons t ts ih =>
    intro q hq h
    obtain ⟨h1, h2, h3, h4⟩ := h
    have hg := gapLen_le false (s.drop q)
    rw [List.length_drop] at hg
    rw [skip_drop, ← h3] at h1 h2 h4
    have hl := tok_len h1
    rw [List.length_drop] at hl
    rw [List.drop_drop] at h4
    exact ⟨by omega, by omega, h2.symm, ih _ (by omega) h4⟩

/-- The kind of the item that a step reads. -/
def KindIs (k : Nat) (m : M Flat) : Prop := ∀ s, (m s).1.kind = k
theorem kind_ret {k : Nat} {f : Flat} (h : f.kind = k) : KindIs k (ret f) := fun _ => h
theorem kind_bnd {α : Type} {m : M α} {f : α → M Flat} {k : Nat} (h : ∀ a, KindIs k (f a)) : KindIs k (bnd m f) := fun s => h _ _
theorem kind_seq {α : Type} {m : M α} {f : M Flat} {k : Nat} (h : KindIs k f) : KindIs k (seq m f) := fun s => h _
theorem kind_ite {c : Prop} [Decidable c] {a b : M Flat} {k : Nat} (ha : KindIs k a) (hb : KindIs k b) : KindIs k (if c then a else b) := by split; exact ha; exact hb
theorem kind_unitEnd (n : Bytes) (wd : Nat) (r : Ratio) (u : Bytes) : KindIs 3 (unitEnd n wd r u) := kind_seq (kind_ret rfl)
theorem kind_unitTail (n : Bytes) (wd : Nat) : KindIs 3 (unitTail n wd) := kind_bnd (fun e => kind_ite (kind_bnd fun _ => kind_bnd fun _ => kind_unitEnd _ _ _ _) (kind_unitEnd _ _ _ _))
theorem kind_actGive (n o : Bytes) (wd : Nat) : KindIs 8 (actGive n o wd) := kind_bnd (fun _ => kind_seq (kind_bnd fun _ => kind_seq (kind_ret rfl)))
theorem kind_actEnd (n o : Bytes) (r : Ratio) (u x : Bytes) : KindIs 8 (actEnd n o r u x) := kind_seq (kind_ret rfl)
theorem kind_actTo (n o : Bytes) (r : Ratio) (u : Bytes) : KindIs 8 (actTo n o r u) := kind_bnd (fun _ => kind_ite (kind_bnd fun _ => kind_actEnd _ _ _ _ _) (kind_actEnd _ _ _ _ _))
theorem kind_dutyEnd (n : Bytes) (oa : Bytes × Bytes) (t : Nat) (w g : Span) : KindIs 9 (dutyEnd n oa t w g) := kind_bnd (fun _ => kind_bnd fun _ => kind_seq (kind_ret rfl))
theorem kind_dutyTail (n : Bytes) (oa : Bytes × Bytes) (t : Nat) : KindIs 9 (dutyTail n oa t) := kind_seq (kind_bnd fun _ => kind_bnd fun _ => kind_ite (kind_bnd fun _ => kind_dutyEnd _ _ _ _ _) (kind_dutyEnd _ _ _ _ _))
theorem kind_party : KindIs 1 party := kind_bnd (fun _ => kind_seq (kind_ret rfl))
theorem kind_role : KindIs 2 role := kind_bnd (fun _ => kind_seq (kind_bnd fun _ => kind_seq (kind_ret rfl)))
theorem kind_unit : KindIs 3 unit := kind_bnd (fun _ => kind_bnd fun _ => kind_ite (kind_unitTail _ _) (kind_seq (kind_unitTail _ _)))
theorem kind_weekend : KindIs 4 weekend := kind_bnd (fun _ => kind_ret rfl)
theorem kind_holiday : KindIs 5 holiday := kind_bnd (fun _ => kind_seq (kind_ret rfl))
theorem kind_spanDef : KindIs 6 spanDef := kind_bnd (fun _ => kind_seq (kind_bnd fun _ => kind_seq (kind_ret rfl)))
theorem kind_sumDef : KindIs 7 sumDef := kind_bnd (fun _ => kind_seq (kind_bnd fun _ => kind_bnd fun _ => kind_seq (kind_ret rfl)))
theorem kind_act : KindIs 8 act := kind_bnd (fun _ => kind_seq (kind_bnd fun _ => kind_bnd fun _ => kind_ite (kind_actGive _ _ _) (kind_bnd fun _ => kind_ite (kind_actGive _ _ _) (kind_bnd fun _ => kind_ite (kind_bnd fun _ => kind_bnd fun _ => kind_actTo _ _ _ _) (kind_actTo _ _ _ _)))))
theorem kind_duty : KindIs 9 duty := kind_bnd (fun _ => kind_bnd fun _ => kind_bnd fun o => by
      cases o
      · exact kind_dutyTail _ _ _
      · exact kind_seq (kind_dutyTail _ _ _))
theorem kind_ban : KindIs 10 ban := kind_bnd (fun _ => kind_bnd fun _ => kind_seq (kind_bnd fun _ => kind_bnd fun _ => kind_bnd fun _ => kind_seq (kind_ret rfl)))
theorem kind_option : KindIs 11 option := kind_bnd (fun _ => kind_bnd fun _ => kind_seq (kind_bnd fun _ => kind_bnd fun _ => kind_seq (kind_ret rfl)))
theorem kind_watch : KindIs 12 watch := kind_bnd (fun _ => kind_seq (kind_bnd fun _ => kind_seq (kind_bnd fun _ => kind_bnd fun _ => kind_seq (kind_ret rfl))))
theorem kind_incl : KindIs 14 incl := kind_bnd (fun _ => kind_seq (kind_bnd fun _ => kind_bnd fun _ => kind_seq (kind_ret rfl)))
theorem kind_body (k : Nat) (hk : k = 1 ∨ k = 2 ∨ k = 3 ∨ k = 4 ∨ k = 5 ∨ k = 6 ∨ k = 7 ∨ k = 8 ∨ k = 9 ∨ k = 10 ∨ k = 11 ∨ k = 12 ∨ k = 14) : KindIs k (body k) := by
  rcases hk with rfl | rfl | rfl | rfl | rfl | rfl | rfl | rfl | rfl | rfl | rfl | rfl | rfl <;> unfold body <;> simp only
  · exact kind_party
  · exact kind_role
  · exact kind_unit
  · exact kind_weekend
  · exact kind_holiday
  · exact kind_spanDef
  · exact kind_sumDef
  · exact kind_act
  · exact kind_duty
  · exact kind_ban
  · exact kind_option
  · exact kind_watch
  · exact kind_incl

/-- How an item starts, if there is no error. -/
theorem start_ok {ws : List (Bytes × Nat)} {s : St} (h : (start ws s).2.err = 0) : ∃ t r k, s.rest = t :: r ∧ t.kind = 1 ∧ ws.lookup t.text = some k ∧ s.items ≠ 600 ∧ s.err = 0 ∧ start ws s = (some (k, t.pos), ⟨r, s.items + 1, 0⟩) := by
  have he := (Built.start ws).ok h
  unfold start at h ⊢
  cases hk : isK 1 s with
  | false =>
    rw [hk] at h
    simp only [Bool.false_eq_true, if_false] at h
    unfold fail at h
    simp only [he, ne_eq, not_true_eq_false, if_false] at h
    split at h <;> simp at h
  | true =>
    rw [hk] at h
    simp only [if_true] at h ⊢
    cases hr : s.rest with
    | nil => simp [isK, hr] at hk
    | cons t r =>
      rw [hr] at h
      simp only at h ⊢
      cases hl : ws.lookup t.text with
      | none =>
        rw [hl] at h
        simp only at h
        unfold fail at h
        simp only [he, ne_eq, not_true_eq_false, if_false, hr] at h
        simp at h
      | some k =>
        rw [hl] at h
        simp only at h ⊢
        by_cases h6 : s.items = 600
        · rw [if_pos h6] at h; simp at h
        · rw [if_neg h6]
          simp only [isK, hr, Bool.and_eq_true, beq_iff_eq] at hk
          exact ⟨t, r, k, rfl, hk.2, hl, h6, he, rfl⟩
theorem lookup_mem' {x : Bytes} {k : Nat} : ∀ {ws : List (Bytes × Nat)}, ws.lookup x = some k → (x, k) ∈ ws
  | [], h => by simp at h
  | (y, j) :: ws, h => by
    rw [List.lookup_cons] at h
    split at h
    · rename_i e
      injection h with h
      subst h
      simp at e
      subst e
      simp
    · exact List.mem_cons_of_mem _ (lookup_mem' h)
theorem words_inner : ∀ p ∈ innerWords, kw p.2 = p.1 ∧ (p.2 = 9 ∨ p.2 = 10 ∨ p.2 = 11 ∨ p.2 = 12 ∨ p.2 = 14) := by decide
theorem words_all : ∀ p ∈ allWords, kw p.2 = p.1 ∧ 1 ≤ p.2 ∧ p.2 ≤ 14 := by decide

def StandF (s : Bytes) (f : Flat) (a c : Nat) : Prop := Stand1 s f a ∧ c ≤ s.length ∧ c = f.pos + (kw f.kind).length
def StandI (s : Bytes) (x : Item) (a c : Nat) : Prop := Stand1 s x.flat a ∧ c ≤ s.length ∧ (x.inner ≠ [] → x.flat.kind = 13) ∧ Chain (StandF s) x.inner (x.flat.pos + (kw x.flat.kind).length) c

theorem inner_stand (txt : Bytes) (s : St) (a : Nat) (ht : TokAt txt a s.rest) (h : (inner s).2.err = 0) : ∃ c, StandF txt (inner s).1 a c ∧ TokAt txt c (inner s).2.rest := by
  have h0 : (start innerWords s).2.err = 0 := by
    unfold inner bnd at h
    refine Built.ok (m := match (start innerWords s).1 with | none => ret flat0 | some kp => bnd (body kp.1) fun f => ret { f with pos := kp.2 }) ?_ h
    cases (start innerWords s).1
    · exact Built.ret _
    · exact Built.bnd (Built.body _) fun _ => Built.ret _
  obtain ⟨t, r, k, hr, h1, hl, h6, he, hs⟩ := start_ok h0
  have hw := words_inner _ (lookup_mem' hl)
  simp only at hw
  have hi : inner s = ({ (body k ⟨r, s.items + 1, 0⟩).1 with pos := t.pos }, (body k ⟨r, s.items + 1, 0⟩).2) := by unfold inner bnd; rw [hs]; rfl
  rw [hi]
  rw [hr] at ht
  obtain ⟨t1, t2, t3, t4⟩ := ht
  have hkd := kind_body k (by omega) ⟨r, s.items + 1, 0⟩
  refine ⟨t.pos + t.text.length, ⟨?_, t2, ?_⟩, t4.suf ((Built.body k).suf _)⟩
  · refine ⟨?_, ?_, ?_, ?_, ?_⟩ <;> simp only [hkd, hw.1]
    · omega
    · omega
    · exact t1
    · exact t2
    · exact t3
  · simp only [hkd, hw.1]
theorem tmplMore_stand (txt : Bytes) : ∀ (n : Nat) (s : St) (a : Nat), a ≤ txt.length → TokAt txt a s.rest → (tmplMore n s).2.err = 0 → ∃ c, c ≤ txt.length ∧ Chain (StandF txt) (tmplMore n s).1 a c ∧ TokAt txt c (tmplMore n s).2.rest := by
  intro n
  induction n with
  | zero => intro s a ha ht h; exact ⟨a, ha, rfl, ht⟩
  | succ n ih =>
    intro s a ha ht h
    have he : s.err = 0 := (Built.tmplMore (n + 1)).ok h
    have hg : tmplMore (n + 1) s = (if (acc [125] s).1 then ret [] else bnd inner fun x => bnd (tmplMore n) fun l => ret (x :: l)) (acc [125] s).2 := by
      show bnd good (fun g => if g then bnd (acc [125]) fun b => if b then ret [] else bnd inner fun x => bnd (tmplMore n) fun l => ret (x :: l) else ret []) s = _
      unfold bnd good
      simp only [he, beq_self_eq_true, if_true]
    rw [hg] at h ⊢
    have hsu := (Built.acc [125]).suf s
    cases hb : (acc [125] s).1 with
    | true =>
      rw [hb] at h
      simp only [if_true] at h ⊢
      exact ⟨a, ha, rfl, ht.suf hsu⟩
    | false =>
      rw [hb] at h
      simp only [Bool.false_eq_true, if_false] at h ⊢
      generalize (acc [125] s).2 = s1 at *
      have e1 : (bnd inner fun x => bnd (tmplMore n) fun l => ret (x :: l)) s1 = ((inner s1).1 :: (tmplMore n (inner s1).2).1, (tmplMore n (inner s1).2).2) := rfl
      rw [e1] at h ⊢
      simp only at h ⊢
      have h2 : (inner s1).2.err = 0 := (Built.tmplMore n).ok h
      obtain ⟨c, hc, htc⟩ := inner_stand txt s1 a (ht.suf hsu) h2
      obtain ⟨d, hd, hch, htd⟩ := ih (inner s1).2 c hc.2.1 htc h
      exact ⟨d, hd, ⟨c, hc, hch⟩, htd⟩
theorem item_stand (txt : Bytes) (s : St) (a : Nat) (ht : TokAt txt a s.rest) (h : (item s).2.err = 0) : ∃ c, StandI txt (item s).1 a c ∧ TokAt txt c (item s).2.rest := by
  have h0 : (start allWords s).2.err = 0 := by
    unfold item bnd at h
    refine Built.ok (m := match (start allWords s).1 with | none => ret (⟨flat0, []⟩ : Item) | some kp => if kp.1 = 13 then bnd template fun x => ret (⟨{ x.flat with pos := kp.2 }, x.inner⟩ : Item) else bnd (body kp.1) fun f => ret (⟨{ f with pos := kp.2 }, []⟩ : Item)) ?_ h
    cases (start allWords s).1
    · exact Built.ret _
    · exact Built.ite (Built.bnd Built.template fun _ => Built.ret _) (Built.bnd (Built.body _) fun _ => Built.ret _)
  obtain ⟨t, r, k, hr, h1, hl, h6, he, hs⟩ := start_ok h0
  have hw := words_all _ (lookup_mem' hl)
  simp only at hw
  rw [hr] at ht
  obtain ⟨t1, t2, t3, t4⟩ := ht
  by_cases hk : k = 13
  · subst hk
    have hi : item s = (⟨{ (template ⟨r, s.items + 1, 0⟩).1.flat with pos := t.pos }, (template ⟨r, s.items + 1, 0⟩).1.inner⟩, (template ⟨r, s.items + 1, 0⟩).2) := by unfold item bnd; rw [hs]; rfl
    rw [hi] at h ⊢
    simp only at h ⊢
    obtain ⟨s2, n, l, hT, hsu⟩ : ∃ s2 n l, template ⟨r, s.items + 1, 0⟩ = (⟨{ flat0 with kind := 13, name := n, names := l }, (long tmplMore s2).1⟩, (long tmplMore s2).2) ∧ s2.rest <:+ r :=
      ⟨_, _, _, rfl, ((Built.expect _).suf _).trans ((Built.names.suf _).trans (Built.name.suf _))⟩
    rw [hT] at h ⊢
    simp only at h ⊢
    obtain ⟨c, hc, hch, htc⟩ := tmplMore_stand txt (s2.rest.length + 1) s2 (t.pos + t.text.length) t2 (t4.suf hsu) h
    refine ⟨c, ⟨⟨by simp, by simp, t1, ?_, ?_⟩, hc, fun _ => rfl, ?_⟩, htc⟩
    · simp only [hw.1]; exact t2
    · simp only [hw.1]; exact t3
    · simp only [hw.1]; exact hch
  · have hi : item s = (⟨{ (body k ⟨r, s.items + 1, 0⟩).1 with pos := t.pos }, []⟩, (body k ⟨r, s.items + 1, 0⟩).2) := by
      unfold item bnd; rw [hs]; simp only; rw [if_neg hk]; rfl
    rw [hi]
    have hkd := kind_body k (by omega) ⟨r, s.items + 1, 0⟩
    refine ⟨t.pos + t.text.length, ⟨?_, t2, fun h => absurd rfl h, ?_⟩, t4.suf ((Built.body k).suf _)⟩
    · refine ⟨?_, ?_, ?_, ?_, ?_⟩ <;> simp only [hkd, hw.1]
      · omega
      · omega
      · exact t1
      · exact t2
      · exact t3
    · show _ = _
      simp only [hkd, hw.1]
theorem itemsMore_ok {n : Nat} {s : St} (h : (itemsMore n s).2.err = 0) : s.err = 0 := by
  by_cases hs : s.err = 0
  · exact hs
  · cases n with
    | zero => exact h
    | succ n =>
      have : itemsMore (n + 1) s = ([], s) := by
        show bnd more (fun g => if g then bnd item fun x => bnd (itemsMore n) fun l => ret (x :: l) else ret []) s = _
        unfold bnd more
        have : (s.err == 0) = false := by simp [hs]
        simp only [this, Bool.false_and]
        rfl
      rw [this] at h
      exact h
theorem itemsMore_stand (txt : Bytes) : ∀ (n : Nat) (s : St) (a : Nat), a ≤ txt.length → TokAt txt a s.rest → (itemsMore n s).2.err = 0 → ∃ c, c ≤ txt.length ∧ Chain (StandI txt) (itemsMore n s).1 a c := by
  intro n
  induction n with
  | zero => intro s a ha ht h; exact ⟨a, ha, rfl⟩
  | succ n ih =>
    intro s a ha ht h
    have hg : itemsMore (n + 1) s = (if (s.err == 0 && !s.rest.isEmpty) then bnd item fun x => bnd (itemsMore n) fun l => ret (x :: l) else ret []) s := by
      show bnd more (fun g => if g then bnd item fun x => bnd (itemsMore n) fun l => ret (x :: l) else ret []) s = _
      unfold bnd more
      rfl
    rw [hg] at h ⊢
    split at h
    · rename_i hc
      rw [if_pos hc]
      have e1 : (bnd item fun x => bnd (itemsMore n) fun l => ret (x :: l)) s = ((item s).1 :: (itemsMore n (item s).2).1, (itemsMore n (item s).2).2) := rfl
      rw [e1] at h ⊢
      simp only at h ⊢
      have h2 : (item s).2.err = 0 := itemsMore_ok h
      obtain ⟨c, hc, htc⟩ := item_stand txt s a ht h2
      obtain ⟨d, hd, hch⟩ := ih (item s).2 c hc.2.1 htc h
      exact ⟨d, hd, c, hc, hch⟩
    · rename_i hc
      rw [if_neg hc]
      exact ⟨a, ha, rfl⟩
theorem source_eq (s : St) : source s = ({ (header s).1 with items := (itemsMore ((header s).2.rest.length + 1) (header s).2).1 }, (itemsMore ((header s).2.rest.length + 1) (header s).2).2) := rfl
theorem source_items (s : St) : (source s).1.items = (itemsMore ((header s).2.rest.length + 1) (header s).2).1 := by rw [source_eq]
theorem source_st (s : St) : (source s).2 = (itemsMore ((header s).2.rest.length + 1) (header s).2).2 := by rw [source_eq]
theorem parse_inv {txt : Bytes} {src : Source} (h : parse txt = .ok src) : ∃ ts, Lx.lex txt = .ok ts ∧ (source ⟨ts, 0, 0⟩).1 = src ∧ (source ⟨ts, 0, 0⟩).2.err = 0 := by
  unfold parse at h
  split at h
  · cases h
  · rename_i ts hl
    obtain ⟨x, hx⟩ : ∃ x, source ⟨ts, 0, 0⟩ = x := ⟨_, rfl⟩
    rw [hx] at h
    split at h
    · rename_i he
      injection h with h
      subst h
      exact ⟨ts, hl, by rw [hx], by rw [hx]; exact he⟩
    · cases h
theorem parse_err_inv {txt : Bytes} {e : Nat} {p : Int} (h : parse txt = .error (e, p)) : Lx.lex txt = .error (e, p) ∨ ∃ ts, Lx.lex txt = .ok ts ∧ (source ⟨ts, 0, 0⟩).2.err = e ∧ e ≠ 0 ∧ p = (atOf txt.length (source ⟨ts, 0, 0⟩).2 : Nat) := by
  unfold parse at h
  split at h
  · rename_i x hx
    injection h with h
    subst h
    exact .inl hx
  · rename_i ts hl
    refine .inr ⟨ts, hl, ?_⟩
    obtain ⟨x, hx⟩ : ∃ x, source ⟨ts, 0, 0⟩ = x := ⟨_, rfl⟩
    rw [hx] at h ⊢
    split at h
    · cases h
    · rename_i he
      injection h with h
      injection h with h1 h2
      exact ⟨h1, by rw [← h1]; exact he, h2.symm⟩
theorem parse_err_ne {txt : Bytes} {e : Nat} {p : Int} (h : parse txt = .error (e, p)) : e ≠ 0 := by
  rcases parse_err_inv h with h | ⟨_, _, _, h, _⟩
  · exact lex_err_ne h
  · exact h
/-- The items of a text's tree stand in it. -/
theorem parse_stand {txt : Bytes} {src : Source} (h : parse txt = .ok src) : ∃ c, c ≤ txt.length ∧ Chain (StandI txt) src.items 0 c := by
  obtain ⟨ts, hl, hs, he⟩ := parse_inv h
  have ht := tokAt_of_toks txt ts 0 (Nat.zero_le _) (Lx.lex_toks hl)
  have hsu := Built.header.suf ⟨ts, 0, 0⟩
  have h1 : src.items = (itemsMore ((header ⟨ts, 0, 0⟩).2.rest.length + 1) (header ⟨ts, 0, 0⟩).2).1 := by rw [← hs, source_items]
  rw [source_st] at he
  obtain ⟨s1, hs1⟩ : ∃ s1, (header ⟨ts, 0, 0⟩).2 = s1 := ⟨_, rfl⟩
  rw [hs1] at h1 he hsu
  rw [h1]
  exact itemsMore_stand txt _ s1 0 (Nat.zero_le _) (ht.suf hsu) he
end Go.Proofs.YtfaflipphkoiiaaDoor.Pr
