/-
  Include: steps of an inclusion; a template is opened and closed.
-/
import Derived.Test.YticakdajhmfpoaaIncTin
import Derived.Test.YticakdajhmfpoaaIncDecl
import Derived.Test.YticakdajhmfpoaaIncLaws2
import Derived.Test.YticakdajhmfpoaaDefB
namespace Go.Proofs.Yticakdajhmfpoaa.Ic
open Go.RowKit Mem Vw Rs
open Go.ChangeMaps (setBlock)
set_option linter.unusedVariables false
set_option linter.unusedSimpArgs false

theorem incl_lim {E : Env} {p : Int} {n : Nat} {op : List Rs.Bytes} {x : Rs.Item} {s : St} (h : 600 < s.count + 1) : incl E p n op x s = (3, ⟨s.count + 1, s.out⟩) := by
  cases n with
  | zero => rfl
  | succ n => unfold incl; exact if_pos h
theorem incl_none {E : Env} {p : Int} {n : Nat} {op : List Rs.Bytes} {x : Rs.Item} {s : St} (h : ¬ 600 < s.count + 1) (ht : E.tmpl x.of_ = none) : incl E p (n + 1) op x s = (8, ⟨s.count + 1, s.out⟩) := by
  unfold incl; rw [if_neg h, ht]
theorem incl_arg {E : Env} {p : Int} {n : Nat} {op : List Rs.Bytes} {x : Rs.Item} {s : St} {t : Tree} (h : ¬ 600 < s.count + 1) (ht : E.tmpl x.of_ = some t) (hn : x.names.length ≠ t.h.names.length) : incl E p (n + 1) op x s = (1, ⟨s.count + 1, s.out⟩) := by
  unfold incl; rw [if_neg h, ht]; exact if_pos hn
theorem incl_cyc {E : Env} {p : Int} {n : Nat} {op : List Rs.Bytes} {x : Rs.Item} {s : St} {t : Tree} (h : ¬ 600 < s.count + 1) (ht : E.tmpl x.of_ = some t) (hn : x.names.length = t.h.names.length) (ho : t.h.name ∈ op) : incl E p (n + 1) op x s = (12, ⟨s.count + 1, s.out⟩) := by
  unfold incl; rw [if_neg h, ht]; exact (if_neg (fun e => e hn)).trans (if_pos ho)
theorem incl_nam {E : Env} {p : Int} {n : Nat} {op : List Rs.Bytes} {x : Rs.Item} {s : St} {t : Tree} (h : ¬ 600 < s.count + 1) (ht : E.tmpl x.of_ = some t) (hn : x.names.length = t.h.names.length) (ho : t.h.name ∉ op) (hx : 24 < x.name.length) : incl E p (n + 1) op x s = (3, ⟨s.count + 1, s.out⟩) := by
  unfold incl; rw [if_neg h, ht]; exact (if_neg (fun e => e hn)).trans ((if_neg ho).trans (if_pos hx))
def stepF (E : Env) (p : Int) (n : Nat) (op : List Rs.Bytes) (t : Tree) (x : Rs.Item) (y : Tree) (s : St) : Int × St :=
  if isClause y.h.kind then included E (inst t x y) p s else if y.h.kind = 14 then incl E p n (t.h.name :: op) (inst t x y).h s else (1, s)
theorem incl_go {E : Env} {p : Int} {n : Nat} {op : List Rs.Bytes} {x : Rs.Item} {s : St} {t : Tree} (h : ¬ 600 < s.count + 1) (ht : E.tmpl x.of_ = some t) (hn : x.names.length = t.h.names.length) (ho : t.h.name ∉ op) (hx : ¬ 24 < x.name.length) : incl E p (n + 1) op x s = each (stepF E p n op t x) t.l ⟨s.count + 1, s.out⟩ := by
  unfold incl; rw [if_neg h, ht]; exact (if_neg (fun e => e hn)).trans ((if_neg ho).trans (if_neg hx))
theorem step_inv {E : Env} {p : Int} {n : Nat} {op : List Rs.Bytes} {t : Tree} {x : Rs.Item} {y : Tree} {s : St} (h : Inv s) : Inv (stepF E p n op t x y s).2 := by
  unfold stepF
  split
  · next hc => exact included_inv (by rw [inst_kind]; exact hc) h
  · split
    · exact incl_inv n _ _ s h
    · exact h
theorem step_le {E : Env} {p : Int} {n : Nat} {op : List Rs.Bytes} {t : Tree} {x : Rs.Item} {y : Tree} {s : St} (h : (stepF E p n op t x y s).1 = 0) : (stepF E p n op t x y s).2.count ≤ 600 := by
  unfold stepF at h ⊢
  split
  · next hc => rw [if_pos hc] at h; exact included_le h
  · next hc =>
    rw [if_neg hc] at h
    split
    · next hk => rw [if_pos hk] at h; exact incl_le n _ _ s h
    · next hk => rw [if_neg hk] at h; cases h
theorem step_up {E : Env} {p : Int} {n : Nat} {op : List Rs.Bytes} {t : Tree} {x : Rs.Item} {y : Tree} {s : St} (h : (stepF E p n op t x y s).1 = 0) : s.count ≤ (stepF E p n op t x y s).2.count := by
  have key : ∀ f : St → Int × St, Ext f → (f s).1 = 0 → s.count ≤ (f s).2.count := fun f hf h0 => by
    obtain ⟨k, d, h1, _⟩ := hf s h0
    rw [h1]; exact Nat.le_add_right _ _
  unfold stepF at h ⊢
  split
  · next hc => rw [if_pos hc] at h; exact key _ (included_ext E _ p) h
  · next hc =>
    rw [if_neg hc] at h
    split
    · next hk => rw [if_pos hk] at h; exact key _ (incl_ext E p n _ _) h
    · next hk => rw [if_neg hk] at h; cases h
theorem each_drop {f : Tree → St → Int × St} {l : List DT} {k : Nat} {y : DT} (h : l[k]? = some y) (s : St) : each f ((l.drop k).map DT.tree) s = if (f y.tree s).1 = 0 then each f ((l.drop (k + 1)).map DT.tree) (f y.tree s).2 else f y.tree s := by
  obtain ⟨h1, h2⟩ := List.getElem?_eq_some_iff.1 h
  rw [List.drop_eq_getElem_cons h1, h2, List.map_cons, each_cons]
theorem env_tmpl (l : List DT) (n : Rs.Bytes) : (envD l).tmpl n = (fst l 13 n).map DT.tree := fst_first 13 n l
/-- What is asked of a template. -/
structure TOk (t : DT) : Prop where
  names : t.h.names.length ≤ 1000000
  len : t.l.length ≤ 1000000
  sh : ∀ y ∈ t.l, Short y
  nm : ∀ y ∈ t.l, y.h.name.length ≤ 900000
  cond : ∀ y ∈ t.l, ∀ c ∈ y.h.conds, c.name.length ≤ 140737488355328
theorem Ex.setInc {B : Nat} {tm sp su : Rs.Bytes → Option Value} {op op' : List Rs.Bytes} {sn : List DT} {cnt : Int} {iv : Value} {w : World} {o : Obj} (h : Ex B tm sp su op sn cnt iv w) (hm : Mp.MapF (setBlock w (B + 3) o) (B + 3) (opF op')) : Ex B tm sp su op' sn cnt iv (setBlock w (B + 3) o) := by
  obtain ⟨o1, hb⟩ := h.inc.blk
  have hf := fr_set (o' := o) hb
  exact ⟨hf.blk h.blk (by omega), h.tm.fr hf (by omega), h.sp.fr hf (by omega), h.su.fr hf (by omega), hm, hf.blk h.seen (by omega), h.e13.fr hf (by omega), h.e6.fr hf (by omega), h.e7.fr hf (by omega)⟩
theorem XS.setInc {Q : Prop} {B : Nat} {l : List DT} {op op' : List Rs.Bytes} {sn : List DT} {cnt : Nat} {iv : Value} {ds : List DT} {w : World} {o : Obj} (h : XS Q B l op sn cnt iv ds w) (hm : Mp.MapF (setBlock w (B + 3) o) (B + 3) (opF op')) : XS Q B l op' sn cnt iv ds (setBlock w (B + 3) o) ∧ Fr (fun g => g = B + 3) w (setBlock w (B + 3) o) := by
  obtain ⟨o1, hb⟩ := h.ex.inc.blk
  have hf := fr_set (o' := o) hb
  exact ⟨⟨h.ex.setInc hm, own_fr h.own hf (fun k h1 _ e => by omega), fun q d hd => (h.lay q d hd).fr hf (fun g hg e => by omega)⟩, hf⟩
theorem XS.opened {Q : Prop} {B : Nat} {l : List DT} {op : List Rs.Bytes} {sn : List DT} {cnt : Nat} {iv : Value} {ds : List DT} {w : World} (h : XS Q B l op sn cnt iv ds w) (n : Rs.Bytes) :
    ∃ w', (Instr.mapUpdate 70 (.map (some (B + 3))) (.string ⟨n.toArray⟩) (.bool true)).run Try.prog w = .ok () w' ∧ XS Q B l (n :: op) sn cnt iv ds w' ∧ Fr (fun g => g = B + 3) w w' := by
  obtain ⟨o, hr, hm⟩ := h.ex.inc.set (P := Try.prog) Try.underlying70 Try.underlying9 n (.bool true)
  have e : (fun y => if y = n then some (.bool true) else opF op y) = opF (n :: op) := by
    funext y
    unfold opF
    by_cases h1 : y = n
    · rw [if_pos h1, if_pos (by rw [h1]; exact List.mem_cons_self)]
    · rw [if_neg h1]
      by_cases h2 : y ∈ op
      · rw [if_pos h2, if_pos (List.mem_cons_of_mem _ h2)]
      · rw [if_neg h2, if_neg (fun h3 => by rcases List.mem_cons.1 h3 with h3 | h3; exact h1 h3; exact h2 h3)]
  rw [e] at hm
  exact ⟨_, hr, h.setInc hm⟩
theorem XS.closed {Q : Prop} {B : Nat} {l : List DT} {op : List Rs.Bytes} {sn : List DT} {cnt : Nat} {iv : Value} {ds : List DT} {w : World} {n : Rs.Bytes} (ty : TypeId) (cs : Array Bool) (hn : n ∉ op) (h : XS Q B l (n :: op) sn cnt iv ds w) :
    ∃ w', (builtin .delete #[70, 9] ty cs #[.map (some (B + 3)), .string ⟨n.toArray⟩]).run Try.prog w = .ok (.value (.tuple #[])) w' ∧ XS Q B l op sn cnt iv ds w' ∧ Fr (fun g => g = B + 3) w w' := by
  obtain ⟨o, hr, hm⟩ := h.ex.inc.del (P := Try.prog) (ty := ty) Try.underlying70 Try.underlying9 n
  have e : (fun y => if y = n then none else opF (n :: op) y) = opF op := by
    funext y
    unfold opF
    by_cases h1 : y = n
    · rw [if_pos h1, if_neg (by rw [h1]; exact hn)]
    · rw [if_neg h1]
      by_cases h2 : y ∈ op
      · rw [if_pos h2, if_pos (List.mem_cons_of_mem _ h2)]
      · rw [if_neg h2, if_neg (fun h3 => by rcases List.mem_cons.1 h3 with h3 | h3; exact h1 h3; exact h2 h3)]
  rw [e] at hm
  refine ⟨setBlock w (B + 3) o, ?_, h.setInc hm⟩
  have hr' : (Builtin.delete_ #[70, 9] ty #[.map (some (B + 3)), .string ⟨n.toArray⟩]).run Try.prog w = .ok (.tuple #[]) (setBlock w (B + 3) o) := hr
  simp [builtin, hr', Result.andThen]
theorem look_tm {l : List DT} {w : World} {r : Nat} (h : Mp.MapF w r (tmF l)) (x : Rs.Bytes) :
    (Instr.lookup 68 (.map (some r)) (.string ⟨x.toArray⟩) true).run Try.prog w = .ok (match fst l 13 x with | none => .tuple #[.agg #[.int .i64 0, .string ⟨#[]⟩, .int .i64 0, .string ⟨#[]⟩, .string ⟨#[]⟩, .int .i64 0, .int .i64 0, .int .i64 0, .bool false, .string ⟨#[]⟩, .int .i64 0, .bool false, .string ⟨#[]⟩, .slice none 0 0, .string ⟨#[]⟩, .string ⟨#[]⟩, .int .i64 0, .int .i64 0, .string ⟨#[]⟩, .string ⟨#[]⟩, .bool false, .string ⟨#[]⟩, .string ⟨#[]⟩, .bool false, .bool false, .bool false, .bool false, .bool false, .bool false, .bool false, .slice none 0 0, .slice none 0 0, .slice none 0 0], .bool false] | some s => .tuple #[.agg s.cells.toArray, .bool true]) w := by
  have := h.ok Try.underlying68 Try.underlying9 x (zero_item w)
  unfold tmF at this
  cases hf : fst l 13 x with
  | none => rw [hf] at this; exact this
  | some s => rw [hf] at this; exact this
theorem look_op {op : List Rs.Bytes} {w : World} {r : Nat} (h : Mp.MapF w r (opF op)) (x : Rs.Bytes) (b : Bool) (hb : decide (x ∈ op) = b) :
    (Instr.lookup 70 (.map (some r)) (.string ⟨x.toArray⟩) false).run Try.prog w = .ok (.bool b) w := by
  have := h.get Try.underlying70 Try.underlying9 x (zero_bool w)
  unfold opF at this
  subst hb
  by_cases h1 : x ∈ op
  · rw [if_pos h1] at this; simp only [h1, decide_true]; exact this
  · rw [if_neg h1] at this; simp only [h1, decide_false]; exact this
/-- What the loop over a template's items holds; W6: the world behind its instantiation. -/
structure IncR (Q : Prop) (B : Nat) (l : List DT) (op : List Rs.Bytes) (sn : List DT) (iv : Value) (W6 : World) (t : DT) (x : Rs.Item) (p : Int) (n : Nat) (r : Int × St) (k : Nat) (s : St) (ivk : Value) (ds : List DT) (wr : World) : Prop where
  xs : XS Q B l (t.h.name :: op) sn s.count ivk ds wr
  out : ds.map DT.tree = s.out
  inv : Inv s
  le : s.count ≤ 600
  fuel : 601 ≤ n + s.count
  own : ∀ g, ivk.ownBlock = some g → iv.ownBlock = some g ∨ W6.heap.size ≤ g
  fr : Fr (SX B iv) W6 wr
  spec : r = each (stepF (envD l) p n op t.tree x) ((t.l.drop k).map DT.tree) s
theorem IncR.step {Q : Prop} {B : Nat} {l : List DT} {op : List Rs.Bytes} {sn : List DT} {iv : Value} {W6 : World} {t : DT} {x : Rs.Item} {p : Int} {n : Nat} {r : Int × St} {k : Nat} {s : St} {ivk : Value} {ds : List DT} {wr wz w' : World} {y : DT} {q : Int × St}
    (h : IncR Q B l op sn iv W6 t x p n r k s ivk ds wr) (hy : t.l[k]? = some y) (hf : Fr (fun _ => False) wr wz) (hq : stepF (envD l) p n op t.tree x y.tree s = q) (h0 : q.1 = 0) (hs : Step Q B l (t.h.name :: op) sn ivk wz q.2 w') : ∃ iv' ds', IncR Q B l op sn iv W6 t x p n r (k + 1) q.2 iv' ds' w' := by
  obtain ⟨⟨iv', ds', h1, h2, h3⟩, h4⟩ := hs
  subst hq
  have hwz := hf.size
  have hw6 := h.fr.size
  refine ⟨iv', ds', h1, h2, step_inv h.inv, step_le h0, by have := step_up h0; have := h.fuel; omega, fun g hg => ?_, ?_, ?_⟩
  · rcases h3 g hg with h5 | h5
    · exact h.own g h5
    · exact .inr (by omega)
  · refine (h.fr.trans' hf (fun _ _ e => e.elim)).trans' h4 (fun g hg e => ?_)
    rcases e with e | e
    · exact .inl e
    · rcases h.own g e with h5 | h5
      · exact .inr h5
      · omega
  · rw [h.spec, each_drop hy, if_pos h0]
theorem IncR.stop {Q : Prop} {B : Nat} {l : List DT} {op : List Rs.Bytes} {sn : List DT} {iv : Value} {W6 : World} {t : DT} {x : Rs.Item} {p : Int} {n : Nat} {r : Int × St} {k : Nat} {s : St} {ivk : Value} {ds : List DT} {wr wz w' : World} {y : DT} {q : Int × St}
    (h : IncR Q B l op sn iv W6 t x p n r k s ivk ds wr) (hy : t.l[k]? = some y) (hf : Fr (fun _ => False) wr wz) (hq : stepF (envD l) p n op t.tree x y.tree s = q) (h0 : q.1 ≠ 0) (hs : Step Q B l (t.h.name :: op) sn ivk wz q.2 w') : r = q ∧ Step Q B l (t.h.name :: op) sn iv W6 q.2 w' := by
  obtain ⟨⟨iv', ds', h1, h2, h3⟩, h4⟩ := hs
  subst hq
  have hwz := hf.size
  have hw6 := h.fr.size
  refine ⟨by rw [h.spec, each_drop hy, if_neg h0], ⟨iv', ds', h1, h2, fun g hg => ?_⟩, ?_⟩
  · rcases h3 g hg with h5 | h5
    · exact h.own g h5
    · exact .inr (by omega)
  · refine (h.fr.trans' hf (fun _ _ e => e.elim)).trans' h4 (fun g hg e => ?_)
    rcases e with e | e
    · exact .inl e
    · rcases h.own g e with h5 | h5
      · exact .inr h5
      · omega
theorem IncR.over {Q : Prop} {B : Nat} {l : List DT} {op : List Rs.Bytes} {sn : List DT} {iv : Value} {W6 : World} {t : DT} {x : Rs.Item} {p : Int} {n : Nat} {r : Int × St} {s : St} {ivk : Value} {ds : List DT} {wr : World}
    (h : IncR Q B l op sn iv W6 t x p n r t.l.length s ivk ds wr) : r = (0, s) ∧ Step Q B l (t.h.name :: op) sn iv W6 s wr := by
  refine ⟨?_, ⟨ivk, ds, h.xs, h.out, h.own⟩, h.fr⟩
  have := h.spec
  rw [List.drop_length] at this
  exact this
/-- The template is closed: the step is one of the inclusion. -/
theorem Step.closed {Q : Prop} {B : Nat} {l : List DT} {op : List Rs.Bytes} {sn : List DT} {iv : Value} {W W6 : World} {r : St} {w' : World} {n : Rs.Bytes} (ty : TypeId) (cs : Array Bool) (hn : n ∉ op) (hW : Fr (SX B iv) W W6) (h : Step Q B l (n :: op) sn iv W6 r w') :
    ∃ w2, (builtin .delete #[70, 9] ty cs #[.map (some (B + 3)), .string ⟨n.toArray⟩]).run Try.prog w' = .ok (.value (.tuple #[])) w2 ∧ Step Q B l op sn iv W r w2 := by
  obtain ⟨⟨iv', ds', h1, h2, h3⟩, h4⟩ := h
  obtain ⟨w2, g1, g2, g3⟩ := h1.closed ty cs hn
  refine ⟨w2, g1, ⟨iv', ds', g2, h2, fun g hg => (h3 g hg).imp id (fun h => Nat.le_trans hW.size h)⟩, (hW.trans h4).trans' g3 (fun g _ e => .inl ⟨by omega, by omega⟩)⟩
end Go.Proofs.Yticakdajhmfpoaa.Ic
