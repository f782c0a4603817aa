/-
  Rows of the reference's code points with their places, and of its pieces: what they read as; append. No condition but lengths far below what memory bears. (Printed by wip/gen_ones.py.)
-/
import Derived.Test.YtelaiafpfaohfaaTb
namespace Go.Proofs.Ytelaiafpfaohfaa
open Go.RowKit
set_option linter.unusedSimpArgs false
set_option linter.unusedVariables false

theorem infoO : (Try.prog.info? 70).map (fun i => (i.zero, i.size, i.bytes)) = some (some (.agg #[.int .i32 0, .bool false, .int .i64 0]), 3, 16) := by kernel_rfl
theorem infoR : (Try.prog.info? 77).map (fun i => (i.zero, i.size, i.bytes)) = some (some (.agg #[.bool false, .int .i64 0, .int .i64 0]), 3, 24) := by kernel_rfl
/-- A code point, and where it comes from. -/
structure On where
  c : Int
  second : Bool
  at_ : Nat
deriving DecidableEq
def ocell (p : On) : List Value := [.int .i32 p.c, .bool p.second, .int .i64 p.at_]
def ocells (l : List On) : List Value := l.flatMap ocell
theorem ocells_len : ∀ (l : List On), (ocells l).length = l.length * 3
  | [] => rfl
  | p :: r => by
    have := ocells_len r
    unfold ocells at this ⊢
    rw [List.flatMap_cons, List.length_append, this, List.length_cons]
    show 3 + _ = _
    omega
theorem ocells_app (l r : List On) : ocells (l ++ r) = ocells l ++ ocells r := by simp [ocells, List.flatMap_append]
theorem ocells_one (l : List On) : ∀ u ∈ ocells l, u.oneCell' = true := by
  intro u hu
  obtain ⟨p, _, hu⟩ := List.mem_flatMap.1 hu
  simp [ocell] at hu
  rcases hu with rfl | rfl | rfl <;> rfl
theorem ocells_drop : ∀ (l : List On) (k : Nat), ocells (l.drop k) = (ocells l).drop (k * 3)
  | [], k => by simp [ocells]
  | p :: r, 0 => by simp
  | p :: r, k + 1 => by
    have h := ocells_drop r k
    rw [List.drop_succ_cons, h]
    show _ = (ocell p ++ ocells r).drop _
    rw [show (k + 1) * 3 = (ocell p).length + k * 3 from by show _ = 3 + _; omega, ← List.drop_drop, List.drop_left]
theorem ocells_take : ∀ (l : List On) (k : Nat), ocells (l.take k) = (ocells l).take (k * 3)
  | [], k => by simp [ocells]
  | p :: r, 0 => by simp [ocells]
  | p :: r, k + 1 => by
    have h := ocells_take r k
    rw [List.take_succ_cons]
    show ocell p ++ ocells (r.take k) = (ocell p ++ ocells r).take _
    rw [h, show (k + 1) * 3 = (ocell p).length + k * 3 from by show _ = 3 + _; omega, List.take_length_add_append]

def OnsRd (w : World) (S : Nat → Prop) (v : Value) (l : List On) : Prop := Rd w S 3 v l.length (ocells l)
def OnsOwn (w : World) (base : Nat) (v : Value) (l : List On) : Prop := w.ownsRow base 70 3 v l.length (ocells l)
theorem OnsRd.below {w w' : World} {S : Nat → Prop} {v : Value} {l : List On} (h : OnsRd w S v l) (hb : Below w.heap.size w w') : OnsRd w' S v l := Rd.below h (by decide) hb
theorem OnsOwn.rd {w : World} {base : Nat} {v : Value} {l : List On} (h : OnsOwn w base v l) : OnsRd w (fun k => base ≤ k ∧ k < w.heap.size) v l := Rd.of_own h
theorem OnsOwn.slice {w : World} {base : Nat} {v : Value} {l : List On} (h : OnsOwn w base v l) : ∃ p c, v = .slice p l.length c := own_slice h
theorem OnsRd.cut {w : World} {S : Nat → Prop} {p : Option Addr} {c k : Nat} {l : List On} (h : OnsRd w S (.slice p l.length c) l) (hk : k ≤ l.length) : OnsRd w S (.slice (if c = k then p else p.map (·.add (k * 3))) (l.length - k) (c - k)) (l.drop k) := by
  have h1 := Rd.cut h hk
  unfold OnsRd
  rw [ocells_drop, List.length_drop]
  exact h1
theorem OnsRd.front {w : World} {S : Nat → Prop} {p : Option Addr} {c k : Nat} {l : List On} (h : OnsRd w S (.slice p l.length c) l) (hk : k ≤ l.length) : OnsRd w S (.slice p k c) (l.take k) := by
  have h1 := Rd.front h hk
  unfold OnsRd
  rw [ocells_take, List.length_take, Nat.min_eq_left hk]
  exact h1
theorem on_at {l : List On} {k : Nat} (h : k < l.length) : (ocells l)[k * 3]? = some (.int .i32 l[k].c) ∧ (ocells l)[k * 3 + 1]? = some (.bool l[k].second) ∧ (ocells l)[k * 3 + 2]? = some (.int .i64 l[k].at_) := by
  have e : (ocells l).drop (k * 3) = ocell l[k] ++ ocells (l.drop (k + 1)) := by
    rw [← ocells_drop, List.drop_eq_getElem_cons h]
    rfl
  have g : ∀ j, j < 3 → (ocells l)[k * 3 + j]? = (ocell l[k])[j]? := by
    intro j hj
    rw [← List.getElem?_drop, e, List.getElem?_append_left (by show j < 3; exact hj)]
  exact ⟨g 0 (by omega), g 1 (by omega), g 2 (by omega)⟩

theorem wpList_append_O {w : World} {ops : Array Oper} {rest : List Oper} {o : Oper} {a : Act} {Q : Exit → Act → World → Prop} (hgd : o.guard = none) (s x : Operand)
    (ho : o.op = .call { callee := .builtin .append, args := #[s, x], argTypes := #[46, 46] }) (base : Nat) (v : Value) (l r : List On) (S : Nat → Prop) (hs : a.eval s = v) (hown : OnsOwn w base v l)
    (p : Option Addr) (c : Nat) (hx : a.eval x = .slice p r.length c) (hr : OnsRd w S (.slice p r.length c) r) (hnil : NilOk (.slice p r.length c)) (hb : (l.length + r.length) * 16 ≤ 140737488355328) (hbase : base ≤ w.heap.size)
    (h : ∀ v' w', OnsOwn w' base v' (l ++ r) → w.grownBy w' v.ownBlock → wpList Try.prog ops Q rest (a.put o.dst v') w') : wpList Try.prog ops Q (o :: rest) a w := by
  obtain ⟨i0, hi, hz0, hz1, hz2⟩ := info_parts infoO
  cases p with
  | none =>
    have hn : r = [] := by
      rcases Nat.eq_zero_or_pos r.length with h0 | h0
      · exact List.eq_nil_of_length_eq_zero h0
      · obtain ⟨b, off, h', _⟩ := Rd.addr hr h0; cases h'
    subst hn
    obtain rfl : c = 0 := hnil _ _ rfl
    exact wpList_append_own_none hgd s x 46 ho base 70 i0 3 Try.underlying46 hi v l.length (ocells l) hs hown hx (h v w (by simpa using hown) (World.grownBy.refl _ _))
  | some ad =>
    refine wpList_append_own w hgd s x 46 ho base 70 i0 (.agg #[.int .i32 0, .bool false, .int .i64 0]) 3 16 Try.underlying46 hi hz0 hz1 hz2 rfl (by decide) v l.length (ocells l) hs hown ad r.length c (ocells r) hx (by first | rw [ocells_len, Nat.mul_one] | rw [ocells_len]) ?_ (ocells_one _) (by unfold maxLen; omega) hb hbase ?_
    · intro j u hu
      have hj : j < r.length * 3 := by have := (List.getElem?_eq_some_iff.1 hu).1; rw [ocells_len] at this; omega
      obtain ⟨b, off, he, _, _, hc⟩ := Rd.addr hr (by omega)
      injection he with he
      subst he
      have := hc j u hu
      rw [show (⟨b, off, none⟩ : Addr).add j = ⟨b, off + j, none⟩ from by unfold Addr.add; split <;> simp_all]
      exact this
    · intro v' w' h1 h2 _
      refine h v' w' ?_ h2
      unfold OnsOwn
      rw [List.length_append, ocells_app]
      exact h1

def RpcOwn (w : World) (base : Nat) (v : Value) (l : List Pc) : Prop := w.ownsRow base 77 3 v l.length (pcells l)
theorem RpcOwn.rd {w : World} {base : Nat} {v : Value} {l : List Pc} (h : RpcOwn w base v l) : PcsRd w (fun k => base ≤ k ∧ k < w.heap.size) v l := Rd.of_own h
theorem wpList_append_R {w : World} {ops : Array Oper} {rest : List Oper} {o : Oper} {a : Act} {Q : Exit → Act → World → Prop} (hgd : o.guard = none) (s x : Operand)
    (ho : o.op = .call { callee := .builtin .append, args := #[s, x], argTypes := #[52, 52] }) (base : Nat) (v : Value) (l r : List Pc) (S : Nat → Prop) (hs : a.eval s = v) (hown : RpcOwn w base v l)
    (p : Option Addr) (c : Nat) (hx : a.eval x = .slice p r.length c) (hr : PcsRd w S (.slice p r.length c) r) (hnil : NilOk (.slice p r.length c)) (hb : (l.length + r.length) * 24 ≤ 140737488355328) (hbase : base ≤ w.heap.size)
    (h : ∀ v' w', RpcOwn w' base v' (l ++ r) → w.grownBy w' v.ownBlock → wpList Try.prog ops Q rest (a.put o.dst v') w') : wpList Try.prog ops Q (o :: rest) a w := by
  obtain ⟨i0, hi, hz0, hz1, hz2⟩ := info_parts infoR
  cases p with
  | none =>
    have hn : r = [] := by
      rcases Nat.eq_zero_or_pos r.length with h0 | h0
      · exact List.eq_nil_of_length_eq_zero h0
      · obtain ⟨b, off, h', _⟩ := Rd.addr hr h0; cases h'
    subst hn
    obtain rfl : c = 0 := hnil _ _ rfl
    exact wpList_append_own_none hgd s x 52 ho base 77 i0 3 Try.underlying52 hi v l.length (pcells l) hs hown hx (h v w (by simpa using hown) (World.grownBy.refl _ _))
  | some ad =>
    refine wpList_append_own w hgd s x 52 ho base 77 i0 (.agg #[.bool false, .int .i64 0, .int .i64 0]) 3 24 Try.underlying52 hi hz0 hz1 hz2 rfl (by decide) v l.length (pcells l) hs hown ad r.length c (pcells r) hx (by first | rw [pcells_len, Nat.mul_one] | rw [pcells_len]) ?_ (pcells_one _) (by unfold maxLen; omega) hb hbase ?_
    · intro j u hu
      have hj : j < r.length * 3 := by have := (List.getElem?_eq_some_iff.1 hu).1; rw [pcells_len] at this; omega
      obtain ⟨b, off, he, _, _, hc⟩ := Rd.addr hr (by omega)
      injection he with he
      subst he
      have := hc j u hu
      rw [show (⟨b, off, none⟩ : Addr).add j = ⟨b, off + j, none⟩ from by unfold Addr.add; split <;> simp_all]
      exact this
    · intro v' w' h1 h2 _
      refine h v' w' ?_ h2
      unfold RpcOwn
      rw [List.length_append, pcells_app]
      exact h1
/-- An append inside a region. -/
theorem wp_append_O {w : World} {o : Oper} {a : Act} {K : Act → World → Prop} {Q : Exit → Act → World → Prop} (s x : Operand)
    (ho : o.op = .call { callee := .builtin .append, args := #[s, x], argTypes := #[46, 46] }) (base : Nat) (v : Value) (l r : List On) (S : Nat → Prop) (hs : a.eval s = v) (hown : OnsOwn w base v l)
    (p : Option Addr) (c : Nat) (hx : a.eval x = .slice p r.length c) (hr : OnsRd w S (.slice p r.length c) r) (hnil : NilOk (.slice p r.length c)) (hb : (l.length + r.length) * 16 ≤ 140737488355328) (hbase : base ≤ w.heap.size)
    (h : ∀ v' w', OnsOwn w' base v' (l ++ r) → w.grownBy w' v.ownBlock → K (a.put o.dst v') w') : o.wp Try.prog a w K Q := by
  obtain ⟨i0, hi, hz0, hz1, hz2⟩ := info_parts infoO
  cases p with
  | none =>
    have hn : r = [] := by
      rcases Nat.eq_zero_or_pos r.length with h0 | h0
      · exact List.eq_nil_of_length_eq_zero h0
      · obtain ⟨b, off, h', _⟩ := Rd.addr hr h0; cases h'
    subst hn
    obtain rfl : c = 0 := hnil _ _ rfl
    have hrun := run_append_owned_none (P := Try.prog) (w := w) base 46 o.type 70 i0 3 Try.underlying46 hi v l.length (ocells l) hown
    unfold Oper.wp
    simp [execOp, ho, resolve, invoke, builtin, hs, hx, hrun, Result.andThen]
    exact h v w (by simpa using hown) (World.grownBy.refl _ _)
  | some ad =>
    refine wp_append_own w s x 46 ho base 70 i0 (.agg #[.int .i32 0, .bool false, .int .i64 0]) 3 16 Try.underlying46 hi hz0 hz1 hz2 rfl (by decide) v l.length (ocells l) hs hown ad r.length c (ocells r) hx (by rw [ocells_len]) ?_ (ocells_one _) (by unfold maxLen; omega) hb hbase ?_
    · intro j u hu
      have hj : j < r.length * 3 := by have := (List.getElem?_eq_some_iff.1 hu).1; rw [ocells_len] at this; omega
      obtain ⟨b, off, he, _, _, hc⟩ := Rd.addr hr (by omega)
      injection he with he
      subst he
      have := hc j u hu
      rw [show (⟨b, off, none⟩ : Addr).add j = ⟨b, off + j, none⟩ from by unfold Addr.add; split <;> simp_all]
      exact this
    · intro v' w' h1 h2 _
      refine h v' w' ?_ h2
      unfold OnsOwn
      rw [List.length_append, ocells_app]
      exact h1


theorem wp_append_R {w : World} {o : Oper} {a : Act} {K : Act → World → Prop} {Q : Exit → Act → World → Prop} (s x : Operand)
    (ho : o.op = .call { callee := .builtin .append, args := #[s, x], argTypes := #[52, 52] }) (base : Nat) (v : Value) (l r : List Pc) (S : Nat → Prop) (hs : a.eval s = v) (hown : RpcOwn w base v l)
    (p : Option Addr) (c : Nat) (hx : a.eval x = .slice p r.length c) (hr : PcsRd w S (.slice p r.length c) r) (hnil : NilOk (.slice p r.length c)) (hb : (l.length + r.length) * 24 ≤ 140737488355328) (hbase : base ≤ w.heap.size)
    (h : ∀ v' w', RpcOwn w' base v' (l ++ r) → w.grownBy w' v.ownBlock → K (a.put o.dst v') w') : o.wp Try.prog a w K Q := by
  obtain ⟨i0, hi, hz0, hz1, hz2⟩ := info_parts infoR
  cases p with
  | none =>
    have hn : r = [] := by
      rcases Nat.eq_zero_or_pos r.length with h0 | h0
      · exact List.eq_nil_of_length_eq_zero h0
      · obtain ⟨b, off, h', _⟩ := Rd.addr hr h0; cases h'
    subst hn
    obtain rfl : c = 0 := hnil _ _ rfl
    have hrun := run_append_owned_none (P := Try.prog) (w := w) base 52 o.type 77 i0 3 Try.underlying52 hi v l.length (pcells l) hown
    unfold Oper.wp
    simp [execOp, ho, resolve, invoke, builtin, hs, hx, hrun, Result.andThen]
    exact h v w (by simpa using hown) (World.grownBy.refl _ _)
  | some ad =>
    refine wp_append_own w s x 52 ho base 77 i0 (.agg #[.bool false, .int .i64 0, .int .i64 0]) 3 24 Try.underlying52 hi hz0 hz1 hz2 rfl (by decide) v l.length (pcells l) hs hown ad r.length c (pcells r) hx (by rw [pcells_len]) ?_ (pcells_one _) (by unfold maxLen; omega) hb hbase ?_
    · intro j u hu
      have hj : j < r.length * 3 := by have := (List.getElem?_eq_some_iff.1 hu).1; rw [pcells_len] at this; omega
      obtain ⟨b, off, he, _, _, hc⟩ := Rd.addr hr (by omega)
      injection he with he
      subst he
      have := hc j u hu
      rw [show (⟨b, off, none⟩ : Addr).add j = ⟨b, off + j, none⟩ from by unfold Addr.add; split <;> simp_all]
      exact this
    · intro v' w' h1 h2 _
      refine h v' w' ?_ h2
      unfold RpcOwn
      rw [List.length_append, pcells_app]
      exact h1

end Go.Proofs.Ytelaiafpfaohfaa
