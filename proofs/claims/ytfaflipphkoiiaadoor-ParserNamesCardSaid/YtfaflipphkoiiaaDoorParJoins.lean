/-
  A text, and the items of another one behind it, have the items of both.
-/
import Derived.Test.YtfaflipphkoiiaaDoorParClosed
namespace Go.Proofs.YtfaflipphkoiiaaDoor.Pr
open Lx (Tok Toks skip skip_length tok_len tokOf toks_lf gapLen gapLen_le)
set_option linter.unusedVariables false

theorem EqF.symm {f g : Flat} (h : EqF false f g) : EqF false g f := by
  refine ⟨?_, fun h => by cases h⟩
  have := h.1
  rw [this]
theorem All2.symm {α : Type} {R : α → α → Prop} (hR : ∀ x y, R x y → R y x) : ∀ {l l' : List α}, All2 R l l' → All2 R l' l
  | [], [], _ => trivial
  | x :: l, y :: l', h => ⟨hR _ _ h.1, All2.symm hR h.2⟩
  | [], y :: l', h => h.elim
  | x :: l, [], h => h.elim
theorem EqI.symm {x y : Item} (h : EqI false x y) : EqI false y x := ⟨h.1.symm, All2.symm (fun _ _ h => h.symm) h.2⟩

theorem acc_inv {x : Bytes} {s : St} (h : (acc x s).1 = true) : ∃ t r, s.rest = t :: r ∧ t.text = x ∧ (acc x s).2 = { s with rest := r } := by
  cases hr : s.rest with
  | nil => exact absurd hr (acc_true_ne h)
  | cons t r =>
    unfold acc at h ⊢
    split at h
    · rename_i hi
      rw [if_pos hi]
      unfold isT at hi
      rw [hr] at hi
      simp only [Bool.and_eq_true, beq_iff_eq] at hi
      exact ⟨t, r, rfl, hi.2, by simp [hr]⟩
    · cases h
theorem expect_inv {x : Bytes} {s : St} (h : (expect [x] s).2.err = 0) : ∃ t r, s.rest = t :: r ∧ t.text = x ∧ (expect [x] s).2 = { s with rest := r } := by
  have h1 := expect_ok h
  obtain ⟨t, r, h2, h3, h4⟩ := acc_inv h1
  refine ⟨t, r, h2, h3, ?_⟩
  rw [expect_one, h1]
  exact h4
theorem expect2_inv {x y : Bytes} {s : St} (h : (expect [x, y] s).2.err = 0) : ∃ t u r, s.rest = t :: u :: r ∧ t.text = x ∧ u.text = y ∧ (expect [x, y] s).2 = { s with rest := r } := by
  have hrun : expect [x, y] s = (if (acc x s).1 then expect [y] else fail) (acc x s).2 := rfl
  rw [hrun] at h ⊢
  cases hb : (acc x s).1 with
  | false => rw [hb] at h; exact absurd h (fail_err _)
  | true =>
    rw [hb] at h
    simp only [if_true] at h ⊢
    obtain ⟨t, r, h2, h3, h4⟩ := acc_inv hb
    rw [h4] at h ⊢
    obtain ⟨u, r', k2, k3, k4⟩ := expect_inv h
    simp only at k2
    exact ⟨t, u, r', by rw [h2, k2], h3, k3, k4⟩
theorem opt_inv {k : Nat} {s : St} (h : isK k s = true) : ∃ t r, s.rest = t :: r ∧ t.kind = k ∧ opt k s = (some t, { s with rest := r }) := by
  cases hr : s.rest with
  | nil => unfold isK at h; rw [hr] at h; simp at h
  | cons t r =>
    unfold opt
    rw [h]
    unfold isK at h
    rw [hr] at h
    simp only [Bool.and_eq_true, beq_iff_eq] at h
    exact ⟨t, r, rfl, h.2, by simp [hr]⟩
theorem name_inv {s : St} (h : (name s).2.err = 0) : ∃ t r, s.rest = t :: r ∧ t.kind = 1 ∧ name s = (t.text, { s with rest := r }) := by
  rw [name_eq] at h ⊢
  cases hk : isK 1 s with
  | false =>
    have : opt 1 s = (none, s) := by unfold opt; rw [hk]; rfl
    unfold bnd at h
    rw [this] at h
    exact absurd h (fail_err s)
  | true =>
    obtain ⟨t, r, h1, h2, h3⟩ := opt_inv hk
    exact ⟨t, r, h1, h2, by unfold bnd; rw [h3]; rfl⟩
theorem number_inv {s : St} (h : (number s).2.err = 0) : ∃ t r, s.rest = t :: r ∧ t.kind = 2 ∧ number s = (t.n, { s with rest := r }) := by
  rw [number_eq] at h ⊢
  cases hk : isK 2 s with
  | false =>
    have : opt 2 s = (none, s) := by unfold opt; rw [hk]; rfl
    unfold bnd at h
    rw [this] at h
    exact absurd h (fail_err s)
  | true =>
    obtain ⟨t, r, h1, h2, h3⟩ := opt_inv hk
    exact ⟨t, r, h1, h2, by unfold bnd; rw [h3]; rfl⟩
theorem seq_run {α β : Type} (m : M α) (f : M β) (s : St) : seq m f s = f (m s).2 := rfl
theorem bnd_run {α β : Type} (m : M α) (f : α → M β) (s : St) : bnd m f s = f (m s).1 (m s).2 := rfl
theorem ret_run {α : Type} (a : α) (s : St) : ret a s = (a, s) := rfl
theorem date_st (s : St) : (date s).2 = (number (expect [[45]] (number (expect [[45]] (number s).2).2).2).2).2 := by
  unfold date; rw [bnd_run, seq_run, bnd_run, seq_run, bnd_run, ret_run]
theorem header_st (s : St) : (header s).2 = (expect [[100, 97, 121, 115], [59]] (number (expect [[102, 111, 114]] (date (expect [[102, 114, 111, 109]] (name (expect [[99, 111, 110, 116, 114, 97, 99, 116]] s).2).2).2).2).2).2).2 := by
  unfold header; rw [seq_run, bnd_run, seq_run, bnd_run, seq_run, bnd_run, seq_run, ret_run]
/-- A token that is no semicolon by its kind or text. -/
def NoSemi (t : Tok) : Prop := t.kind = 1 ∨ t.kind = 2 ∨ t.text = [99, 111, 110, 116, 114, 97, 99, 116] ∨ t.text = [102, 114, 111, 109] ∨ t.text = [45] ∨ t.text = [102, 111, 114] ∨ t.text = [100, 97, 121, 115]
theorem date_inv {s : St} (h : (date s).2.err = 0) : ∃ p r, s.rest = p ++ r ∧ (∀ t ∈ p, NoSemi t) ∧ (date s).2 = { s with rest := r } := by
  rw [date_st] at h ⊢
  have e4 := (Built.expect _).ok (Built.number.ok h)
  have e3 := Built.number.ok e4
  have e2 := (Built.expect _).ok e3
  obtain ⟨t1, r1, a1, b1, c1⟩ := number_inv e2
  rw [c1] at h e4 e3 ⊢
  simp only at h e4 e3 ⊢
  obtain ⟨t2, r2, a2, b2, c2⟩ := expect_inv e3
  rw [c2] at h e4 ⊢
  simp only at h e4 a2 ⊢
  obtain ⟨t3, r3, a3, b3, c3⟩ := number_inv e4
  rw [c3] at h ⊢
  simp only at h a3 ⊢
  obtain ⟨t4, r4, a4, b4, c4⟩ := expect_inv (Built.number.ok h)
  rw [c4] at h ⊢
  simp only at h a4 ⊢
  obtain ⟨t5, r5, a5, b5, c5⟩ := number_inv h
  simp only at a5
  refine ⟨[t1, t2, t3, t4, t5], r5, by rw [a1, a2, a3, a4, a5]; rfl, ?_, by rw [c5]⟩
  intro t ht
  simp only [List.mem_cons, List.not_mem_nil, or_false] at ht
  rcases ht with rfl | rfl | rfl | rfl | rfl
  · exact .inr (.inl b1)
  · exact .inr (.inr (.inr (.inr (.inl b2))))
  · exact .inr (.inl b3)
  · exact .inr (.inr (.inr (.inr (.inl b4))))
  · exact .inr (.inl b5)
theorem header_inv {s : St} (h : (header s).2.err = 0) : ∃ p t r, s.rest = p ++ t :: r ∧ (∀ u ∈ p, NoSemi u) ∧ t.text = [59] ∧ (header s).2 = { s with rest := r } := by
  rw [header_st] at h ⊢
  have e6 := (Built.expect _).ok h
  have e5 := Built.number.ok e6
  have e4 := (Built.expect _).ok e5
  have e3 := Built.date.ok e4
  have e2 := (Built.expect _).ok e3
  have e1 := Built.name.ok e2
  obtain ⟨t1, r1, a1, b1, c1⟩ := expect_inv e1
  rw [c1] at h e6 e5 e4 e3 e2 ⊢
  obtain ⟨t2, r2, a2, b2, c2⟩ := name_inv e2
  rw [c2] at h e6 e5 e4 e3 ⊢
  simp only at h e6 e5 e4 e3 a2 ⊢
  obtain ⟨t3, r3, a3, b3, c3⟩ := expect_inv e3
  rw [c3] at h e6 e5 e4 ⊢
  simp only at h e6 e5 e4 a3 ⊢
  obtain ⟨p4, r4, a4, b4, c4⟩ := date_inv e4
  rw [c4] at h e6 e5 ⊢
  simp only at h e6 e5 a4 ⊢
  obtain ⟨t5, r5, a5, b5, c5⟩ := expect_inv e5
  rw [c5] at h e6 ⊢
  simp only at h e6 a5 ⊢
  obtain ⟨t6, r6, a6, b6, c6⟩ := number_inv e6
  rw [c6] at h ⊢
  simp only at h a6 ⊢
  obtain ⟨t7, t8, r8, a7, b7, b8, c7⟩ := expect2_inv h
  simp only at a7
  refine ⟨[t1, t2, t3] ++ p4 ++ [t5, t6, t7], t8, r8, by rw [a1, a2, a3, a4, a5, a6, a7]; simp, ?_, b8, by rw [c7]⟩
  intro t ht
  simp only [List.mem_append, List.mem_cons, List.not_mem_nil, or_false] at ht
  rcases ht with ((rfl | rfl | rfl) | ht) | (rfl | rfl | rfl)
  · exact .inr (.inr (.inl b1))
  · exact .inl b2
  · exact .inr (.inr (.inr (.inl b3)))
  · exact b4 t ht
  · exact .inr (.inr (.inr (.inr (.inr (.inl b5)))))
  · exact .inr (.inl b6)
  · exact .inr (.inr (.inr (.inr (.inr (.inr b7)))))
theorem tok_semi {ts : List Tok} {l : Bytes} {p : Nat} (h : Toks ts l p) : ∀ t ∈ ts, t.text = [59] → t.kind = 3 := by
  induction ts generalizing l p with
  | nil => intro t ht; cases ht
  | cons u ts ih =>
    obtain ⟨h1, h2, h3, h4⟩ := h
    intro t ht htx
    rcases List.mem_cons.1 ht with rfl | ht
    · rw [htx] at h2
      cases hs : skip l with
      | nil => rw [hs] at h2; simp at h2
      | cons c r =>
        rw [hs] at h2
        simp only [List.length_cons, List.length_nil, Nat.zero_add, List.take_succ_cons, List.take_zero, List.cons.injEq, and_true] at h2
        rw [hs, ← h2] at h1
        have hl : Lx.isLetter 59 = false := by decide
        have hd : Lx.isDigit 59 = false := by decide
        simp only [tokOf, hl, hd, Bool.false_eq_true, if_false] at h1
        split at h1
        · injection h1 with h1
          simp only [Prod.mk.injEq] at h1
          exact h1.1.symm
        · cases h1
    · exact ih h4 t ht htx
theorem NoSemi.ne {ts : List Tok} {l : Bytes} {p : Nat} (h : Toks ts l p) {t : Tok} (ht : t ∈ ts) (hn : NoSemi t) : t.text ≠ [59] := by
  intro e
  have hk := tok_semi h t ht e
  rcases hn with h | h | h | h | h | h | h
  · omega
  · omega
  all_goals (rw [e] at h; revert h; decide)
theorem toks_after {r vs : List Tok} {t : Tok} {l : Bytes} {p : Nat} (h : Toks (r ++ t :: vs) l p) : Toks vs (l.drop (t.pos - p + t.text.length)) (t.pos + t.text.length) := by
  induction r generalizing l p with
  | nil =>
    obtain ⟨h1, h2, h3, h4⟩ := h
    unfold skip at h4
    rw [List.drop_drop] at h4
    rwa [show t.pos - p + t.text.length = gapLen false l + t.text.length by omega]
  | cons u r ih =>
    obtain ⟨h1, h2, h3, h4⟩ := h
    have hb := toks_at h4 t (by simp)
    have := ih h4
    unfold skip at this
    rw [List.drop_drop, List.drop_drop] at this
    rwa [show t.pos - p + t.text.length = gapLen false l + (u.text.length + (t.pos - (u.pos + u.text.length) + t.text.length)) by omega]
theorem toks_move {ts : List Tok} {l : Bytes} {p : Nat} (h : Toks ts l p) : ∀ q, ∃ us, Toks us l q ∧ us.map key = ts.map key := by
  induction ts generalizing l p with
  | nil => intro q; exact ⟨[], h, rfl⟩
  | cons t ts ih =>
    obtain ⟨h1, h2, h3, h4⟩ := h
    intro q
    obtain ⟨us, k1, k2⟩ := ih h4 (q + gapLen false l + t.text.length)
    exact ⟨{ t with pos := q + gapLen false l } :: us, ⟨h1, h2, rfl, k1⟩, by simp only [List.map_cons, k2]; rfl⟩
theorem parse_of {txt : Bytes} {ts : List Tok} {src : Source} (h : Lx.lex txt = .ok ts) (he : (source ⟨ts, 0, 0⟩).2.err = 0) (hs : (source ⟨ts, 0, 0⟩).1 = src) : parse txt = .ok src := by
  unfold parse
  rw [h]
  obtain ⟨X, hX⟩ : ∃ X, source ⟨ts, 0, 0⟩ = X := ⟨_, rfl⟩
  rw [hX] at he hs
  simp only
  rw [hX, if_pos he, hs]
theorem joins_plain {a b : Bytes} {A B : Source} (ha : a.length ≤ 2000) (hb : b.length ≤ 2000) (h1 : parse a = .ok A) (h2 : parse b = .ok B) (hc : count A.items + count B.items ≤ 600) :
    ∃ ts i, ∃ hi : i < ts.length, Lx.lex b = .ok ts ∧ ts[i].text = [59] ∧ (∀ j (hj : j < ts.length), j < i → ts[j].text ≠ [59]) ∧ ts[i].pos < b.length ∧
      ∃ C, parse (a ++ 10 :: b.drop (ts[i].pos + 1)) = .ok C ∧ C.name = A.name ∧ C.frm = A.frm ∧ C.days = A.days ∧ All2 (EqI false) C.items (A.items ++ B.items) := by
  obtain ⟨tsa, la, sa, ea⟩ := parse_inv h1
  obtain ⟨tsb, lb, sb, eb⟩ := parse_inv h2
  have Ta := Lx.lex_toks la
  have Tb := Lx.lex_toks lb
  have eqa := source_eq ⟨tsa, 0, 0⟩
  have eqb := source_eq ⟨tsb, 0, 0⟩
  have hkb := Like0.header.1 ⟨tsb, 0, 0⟩
  have hka := Like0.header.1 ⟨tsa, 0, 0⟩
  have hinv := @header_inv ⟨tsb, 0, 0⟩
  have hext := Closed.header.ext
  have hda := hext
  generalize hHa : header ⟨tsa, 0, 0⟩ = Ha at *
  generalize hHb : header ⟨tsb, 0, 0⟩ = Hb at *
  rw [eqa] at sa ea
  rw [eqb] at sb eb
  simp only at sa ea sb eb
  have ehb : Hb.2.err = 0 := itemsMore_ok eb
  have eha : Ha.2.err = 0 := itemsMore_ok ea
  obtain ⟨p, t, r, q1, q2, q3, q4⟩ := hinv ehb
  simp only at q1 q4
  have hit : p.length < tsb.length := by rw [q1]; simp
  have git : tsb[p.length] = t := by
    have : tsb[p.length]? = some t := by rw [q1]; simp
    rw [List.getElem?_eq_getElem hit] at this
    exact Option.some.inj this
  have hat := toks_at Tb t (by rw [q1]; simp)
  rw [q3] at hat
  simp only [List.length_cons, List.length_nil] at hat
  refine ⟨tsb, p.length, hit, lb, by rw [git]; exact q3, ?_, by rw [git]; omega, ?_⟩
  · intro j hj hjp
    have hm : tsb[j] ∈ p := by
      have : tsb[j]? = p[j]? := by rw [q1, List.getElem?_append_left hjp]
      rw [List.getElem?_eq_getElem hj, List.getElem?_eq_getElem hjp] at this
      rw [Option.some.inj this]
      exact List.getElem_mem _
    exact NoSemi.ne Tb (List.getElem_mem _) (q2 _ hm)
  · rw [git]
    have Tb' := Tb
    rw [q1] at Tb'
    have Tr := toks_after Tb'
    rw [q3] at Tr
    simp only [List.length_cons, List.length_nil, Nat.sub_zero] at Tr
    obtain ⟨us, Tu, hus⟩ := toks_move Tr (0 + a.length + 1)
    have Tj := toks_lf Ta Tu
    have hlenj := Lx.toks_len Tj
    have hlj := Lx.toks_lex Tj (by simp only [List.length_append, List.length_cons, List.length_drop]; omega) (by simp only [List.length_append, List.length_cons, List.length_drop] at hlenj ⊢; omega)
    obtain ⟨x1, x2⟩ := hext us ⟨tsa, 0, 0⟩ ⟨tsa ++ us, 0, 0⟩ ⟨rfl, rfl, rfl⟩ (by rw [hHa]; exact eha)
    rw [hHa] at x1 x2
    have eqj := source_eq ⟨tsa ++ us, 0, 0⟩
    generalize header ⟨tsa ++ us, 0, 0⟩ = Hj at *
    obtain ⟨y1, y2⟩ := items_join _ Ha.2 (Nat.lt_succ_self _) ea us Hj.2 x2 _ (Nat.lt_succ_self _)
    have hcnt := items_count _ _ ea
    rw [hka] at hcnt
    simp only [Nat.zero_add] at hcnt
    have hAi : A.items = (itemsMore (Ha.2.rest.length + 1) Ha.2).1 := by rw [← sa]
    have hBi : B.items = (itemsMore (Hb.2.rest.length + 1) Hb.2).1 := by rw [← sb]
    rw [← hAi] at hcnt y1
    rw [hcnt] at y1 y2
    have hul : us.length = r.length := by have := congrArg List.length hus; simpa using this
    have hjl : us.length ≤ Hj.2.rest.length := by rw [x2.1, List.length_append]; omega
    have hlike : Like (count A.items) Hb.2 ⟨us, count A.items, 0⟩ := by
      refine ⟨?_, ?_, ?_⟩
      · rw [q4]; exact hus
      · rw [hkb]; show count A.items = 0 + count A.items; omega
      · exact ehb.symm
    have hrl : Hb.2.rest.length = r.length := by rw [q4]
    have hfu := items_fueled (Hb.2.rest.length + 1) (Hj.2.rest.length + 1) Hb.2 (by omega) (by omega)
    have hcb := items_count _ _ eb
    rw [hkb, ← hBi] at hcb
    simp only [Nat.zero_add] at hcb
    rw [hfu] at hBi eb hcb
    obtain ⟨z1, z2⟩ := items_like (count A.items) (Hj.2.rest.length + 1) Hb.2 _ hlike (.inr ⟨eb, by rw [hcb]; omega⟩)
    rw [← hBi] at z1
    refine ⟨_, parse_of hlj ?_ rfl, ?_⟩
    · rw [eqj]
      simp only
      rw [y2, z2.2.2]
      exact eb
    · rw [eqj]
      simp only
      rw [x1, ← sa]
      refine ⟨rfl, rfl, rfl, ?_⟩
      simp only
      rw [← hAi, y1]
      exact All2.app (All2.refl (EqI.refl _) _) (All2.symm (fun _ _ h => h.symm) z1)
end Go.Proofs.YtfaflipphkoiiaaDoor.Pr
