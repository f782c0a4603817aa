/-
  Rows of code points and of pieces: what they read as; Clone, append. No condition but lengths far below what memory bears. (Printed by wip/gen_pc.py.)
-/
import Derived.Test.YtelaiafpfaohfaaCore
import Derived.Test.YtelaiafpfaohfaaProg
import Derived.Lib.SliceRun
import Derived.Laws.AppendOwnNone
import Derived.OwnWalk
namespace Go.Proofs.Ytelaiafpfaohfaa
open Go.RowKit
set_option linter.unusedSimpArgs false
set_option linter.unusedVariables false

theorem infoC : (Try.prog.info? 29).map (fun i => (i.zero, i.size, i.bytes)) = some (some (.int .i32 0), 1, 4) := by kernel_rfl
theorem infoP : (Try.prog.info? 58).map (fun i => (i.zero, i.size, i.bytes)) = some (some (.agg #[.bool false, .int .i64 0, .int .i64 0]), 3, 24) := by kernel_rfl

/-- A stretch of one of both buffers. -/
structure Pc where
  second : Bool
  at_ : Nat
  len : Nat
deriving DecidableEq
def ccells (l : List Int) : List Value := l.map fun c => .int .i32 c
def pcell (p : Pc) : List Value := [.bool p.second, .int .i64 p.at_, .int .i64 p.len]
def pcells (l : List Pc) : List Value := l.flatMap pcell
theorem ccells_len (l : List Int) : (ccells l).length = l.length := by simp [ccells]
theorem ccells_app (l r : List Int) : ccells (l ++ r) = ccells l ++ ccells r := by simp [ccells]
theorem ccells_one (l : List Int) : ∀ u ∈ ccells l, u.oneCell' = true := by
  intro u hu; obtain ⟨x, _, rfl⟩ := List.mem_map.1 hu; rfl
theorem ccells_drop (l : List Int) (k : Nat) : ccells (l.drop k) = (ccells l).drop k := by simp [ccells]
theorem ccells_take (l : List Int) (k : Nat) : ccells (l.take k) = (ccells l).take k := by simp [ccells]
theorem pcells_len : ∀ (l : List Pc), (pcells l).length = l.length * 3
  | [] => rfl
  | p :: r => by
    have := pcells_len r
    unfold pcells at this ⊢
    rw [List.flatMap_cons, List.length_append, this, List.length_cons]
    show 3 + _ = _
    omega
theorem pcells_app (l r : List Pc) : pcells (l ++ r) = pcells l ++ pcells r := by simp [pcells, List.flatMap_append]
theorem pcells_one (l : List Pc) : ∀ u ∈ pcells l, u.oneCell' = true := by
  intro u hu
  obtain ⟨p, _, hu⟩ := List.mem_flatMap.1 hu
  simp [pcell] at hu
  rcases hu with rfl | rfl | rfl <;> rfl
theorem pcells_drop : ∀ (l : List Pc) (k : Nat), pcells (l.drop k) = (pcells l).drop (k * 3)
  | [], k => by simp [pcells]
  | p :: r, 0 => by simp
  | p :: r, k + 1 => by
    have h := pcells_drop r k
    rw [List.drop_succ_cons, h]
    show _ = (pcell p ++ pcells r).drop _
    rw [show (k + 1) * 3 = (pcell p).length + k * 3 from by show _ = 3 + _; omega, ← List.drop_drop, List.drop_left]
theorem pcells_take : ∀ (l : List Pc) (k : Nat), pcells (l.take k) = (pcells l).take (k * 3)
  | [], k => by simp [pcells]
  | p :: r, 0 => by simp [pcells]
  | p :: r, k + 1 => by
    have h := pcells_take r k
    rw [List.take_succ_cons]
    show pcell p ++ pcells (r.take k) = (pcell p ++ pcells r).take _
    rw [h, show (k + 1) * 3 = (pcell p).length + k * 3 from by show _ = 3 + _; omega, List.take_length_add_append]

def CharRd (w : World) (S : Nat → Prop) (v : Value) (l : List Int) : Prop := Rd w S 1 v l.length (ccells l)
def CharOwn (w : World) (base : Nat) (v : Value) (l : List Int) : Prop := w.ownsRow base 29 1 v l.length (ccells l)
def PcsRd (w : World) (S : Nat → Prop) (v : Value) (l : List Pc) : Prop := Rd w S 3 v l.length (pcells l)
def PcsOwn (w : World) (base : Nat) (v : Value) (l : List Pc) : Prop := w.ownsRow base 58 3 v l.length (pcells l)
theorem CharRd.below {w w' : World} {S : Nat → Prop} {v : Value} {l : List Int} (h : CharRd w S v l) (hb : Below w.heap.size w w') : CharRd w' S v l := Rd.below h (by decide) hb
theorem PcsRd.below {w w' : World} {S : Nat → Prop} {v : Value} {l : List Pc} (h : PcsRd w S v l) (hb : Below w.heap.size w w') : PcsRd w' S v l := Rd.below h (by decide) hb
theorem CharOwn.rd {w : World} {base : Nat} {v : Value} {l : List Int} (h : CharOwn w base v l) : CharRd w (fun k => base ≤ k ∧ k < w.heap.size) v l := Rd.of_own h
theorem PcsOwn.rd {w : World} {base : Nat} {v : Value} {l : List Pc} (h : PcsOwn w base v l) : PcsRd w (fun k => base ≤ k ∧ k < w.heap.size) v l := Rd.of_own h
theorem CharOwn.slice {w : World} {base : Nat} {v : Value} {l : List Int} (h : CharOwn w base v l) : ∃ p c, v = .slice p l.length c := own_slice h
theorem PcsOwn.slice {w : World} {base : Nat} {v : Value} {l : List Pc} (h : PcsOwn w base v l) : ∃ p c, v = .slice p l.length c := own_slice h
theorem PcsRd.cut {w : World} {S : Nat → Prop} {p : Option Addr} {c k : Nat} {l : List Pc} (h : PcsRd w S (.slice p l.length c) l) (hk : k ≤ l.length) : PcsRd w S (.slice (if c = k then p else p.map (·.add (k * 3))) (l.length - k) (c - k)) (l.drop k) := by
  have h1 := Rd.cut h hk
  unfold PcsRd
  rw [pcells_drop, List.length_drop]
  exact h1
theorem PcsRd.front {w : World} {S : Nat → Prop} {p : Option Addr} {c k : Nat} {l : List Pc} (h : PcsRd w S (.slice p l.length c) l) (hk : k ≤ l.length) : PcsRd w S (.slice p k c) (l.take k) := by
  have h1 := Rd.front h hk
  unfold PcsRd
  rw [pcells_take, List.length_take, Nat.min_eq_left hk]
  exact h1
theorem pc_at {l : List Pc} {k : Nat} (h : k < l.length) : (pcells l)[k * 3]? = some (.bool l[k].second) ∧ (pcells l)[k * 3 + 1]? = some (.int .i64 l[k].at_) ∧ (pcells l)[k * 3 + 2]? = some (.int .i64 l[k].len) := by
  have e : (pcells l).drop (k * 3) = pcell l[k] ++ pcells (l.drop (k + 1)) := by
    rw [← pcells_drop, List.drop_eq_getElem_cons h]
    rfl
  have g : ∀ j, j < 3 → (pcells l)[k * 3 + j]? = (pcell l[k])[j]? := by
    intro j hj
    rw [← List.getElem?_drop, e, List.getElem?_append_left (by show j < 3; exact hj)]
  exact ⟨g 0 (by omega), g 1 (by omega), g 2 (by omega)⟩

/-- No spare places behind nil. -/
def NilOk (v : Value) : Prop := ∀ n c, v = .slice none n c → c = 0
theorem NilOk.own {w : World} {base sz n : Nat} {e : TypeId} {s : Value} {cs : List Value} (h : w.ownsRow base e sz s n cs) : NilOk s := by
  intro n c hs
  rcases h.2 with ⟨h1, _⟩ | ⟨g, cap, cur, h1, _⟩
  · rw [hs] at h1; injection h1 with _ _ h1
  · rw [hs] at h1; cases h1
theorem NilOk.some {a : Addr} {n c : Nat} : NilOk (.slice (some a) n c) := by intro n c h; cases h
theorem NilOk.nil : NilOk (.slice none 0 0) := by intro n c h; injection h with _ _ h; exact h.symm

set_option maxHeartbeats 400000 in
theorem slices_Clone_C {w : World} {S : Nat → Prop} {v : Value} {n : Nat} {cs : List Value} (h : Rd w S 1 v n cs) (h1 : ∀ u ∈ cs, u.oneCell' = true) (hb : n * 4 ≤ 140737488355328) :
    Calls Try.prog 32 #[v] w fun e w' => ∃ p c, e = .returned (.slice p n c) ∧ w'.ownsRow w.heap.size 29 1 (.slice p n c) n cs ∧ Below w.heap.size w w' := by
  obtain ⟨i0, hi, hz0, hz1, hz2⟩ := info_parts infoC
  obtain ⟨hl, p, c, rfl, hc, hm, hr⟩ := h
  have q := fun (w : World) (a : Option Addr) (n c n' c' : Nat) => Lib.run_eql_slice_nil (P := Try.prog) w 22 29 a n c n' c' Try.underlying22
  cases p with
  | none =>
    have hn : n = 0 := by
      rcases Nat.eq_zero_or_pos n with h | h
      · exact h
      · obtain ⟨b, off, h', _⟩ := hr h; cases h'
    subst hn
    have : cs = [] := List.eq_nil_of_length_eq_zero (by simpa using hl)
    subst this
    clear hr
    go_enter Try.func32, Try.ntmps32
    go_wp2
    go_ret
    exact ⟨_, _, rfl, World.ownsRow_nil _ _ _ _, Below.refl _ _⟩
  | some a =>
    have hnew : ∀ (j : Nat) u, cs[j]? = some u → w.cell? (a.add j) = some u := by
      intro j u hu
      have hj : j < cs.length := (List.getElem?_eq_some_iff.1 hu).1
      obtain ⟨b, off, h', _, hcell⟩ := hr (by omega)
      cases h'
      have := hcell j u hu
      unfold Addr.add
      split
      · subst j; simpa using this
      · exact this
    have H := Lib.hid hnew
    have H1 := Lib.hid h1
    have Hl := Lib.hid hl
    clear hr hnew h1 hl
    go_enter Try.func32, Try.ntmps32
    go_wp2_with (at_builtin; refine wpList_append_own _ rfl _ _ 22 rfl w.heap.size 29 i0 _ 1 4 Try.underlying22 hi hz0 hz1 hz2 rfl (by decide) _ _ _ rfl (World.ownsRow_made w #[] 0 (Nat.le_refl _) (Nat.zero_le _) rfl) a n c cs rfl ?c1 ?c2 H1.out ?c4 ?c5 ?c6 ?_)
    case c1 => exact Hl.out
    case c2 => intro j u hu; exact Lib.cell?_alloc_some _ (H.out j u hu)
    case c4 => omega
    case c5 => omega
    case c6 => simp
    intro v' w1 hown hgrow hnil
    clear hnil
    obtain ⟨p, c', rfl⟩ := own_slice hown
    go_wp2
    go_ret
    refine ⟨p, c', by simp, by simpa using hown, ?_⟩
    exact ((Below.refl _ w).alloc (Nat.le_refl _) _).grown hgrow (by simp) (by intro k hk; simp [Value.ownBlock] at hk; omega)

set_option maxHeartbeats 400000 in
theorem slices_Clone_P {w : World} {S : Nat → Prop} {v : Value} {n : Nat} {cs : List Value} (h : Rd w S 3 v n cs) (h1 : ∀ u ∈ cs, u.oneCell' = true) (hb : n * 24 ≤ 140737488355328) :
    Calls Try.prog 41 #[v] w fun e w' => ∃ p c, e = .returned (.slice p n c) ∧ w'.ownsRow w.heap.size 58 3 (.slice p n c) n cs ∧ Below w.heap.size w w' := by
  obtain ⟨i0, hi, hz0, hz1, hz2⟩ := info_parts infoP
  obtain ⟨hl, p, c, rfl, hc, hm, hr⟩ := h
  have q := fun (w : World) (a : Option Addr) (n c n' c' : Nat) => Lib.run_eql_slice_nil (P := Try.prog) w 50 58 a n c n' c' Try.underlying50
  cases p with
  | none =>
    have hn : n = 0 := by
      rcases Nat.eq_zero_or_pos n with h | h
      · exact h
      · obtain ⟨b, off, h', _⟩ := hr h; cases h'
    subst hn
    have : cs = [] := List.eq_nil_of_length_eq_zero (by simpa using hl)
    subst this
    clear hr
    go_enter Try.func41, Try.ntmps41
    go_wp2
    go_ret
    exact ⟨_, _, rfl, World.ownsRow_nil _ _ _ _, Below.refl _ _⟩
  | some a =>
    have hnew : ∀ (j : Nat) u, cs[j]? = some u → w.cell? (a.add j) = some u := by
      intro j u hu
      have hj : j < cs.length := (List.getElem?_eq_some_iff.1 hu).1
      obtain ⟨b, off, h', _, hcell⟩ := hr (by omega)
      cases h'
      have := hcell j u hu
      unfold Addr.add
      split
      · subst j; simpa using this
      · exact this
    have H := Lib.hid hnew
    have H1 := Lib.hid h1
    have Hl := Lib.hid hl
    clear hr hnew h1 hl
    go_enter Try.func41, Try.ntmps41
    go_wp2_with (at_builtin; refine wpList_append_own _ rfl _ _ 50 rfl w.heap.size 58 i0 _ 3 24 Try.underlying50 hi hz0 hz1 hz2 rfl (by decide) _ _ _ rfl (World.ownsRow_made w #[] 0 (Nat.le_refl _) (Nat.zero_le _) rfl) a n c cs rfl ?c1 ?c2 H1.out ?c4 ?c5 ?c6 ?_)
    case c1 => exact Hl.out
    case c2 => intro j u hu; exact Lib.cell?_alloc_some _ (H.out j u hu)
    case c4 => omega
    case c5 => omega
    case c6 => simp
    intro v' w1 hown hgrow hnil
    clear hnil
    obtain ⟨p, c', rfl⟩ := own_slice hown
    go_wp2
    go_ret
    refine ⟨p, c', by simp, by simpa using hown, ?_⟩
    exact ((Below.refl _ w).alloc (Nat.le_refl _) _).grown hgrow (by simp) (by intro k hk; simp [Value.ownBlock] at hk; omega)


theorem wpList_append_C {w : World} {ops : Array Oper} {rest : List Oper} {o : Oper} {a : Act} {Q : Exit → Act → World → Prop} (hgd : o.guard = none) (s x : Operand)
    (ho : o.op = .call { callee := .builtin .append, args := #[s, x], argTypes := #[22, 22] }) (base : Nat) (v : Value) (l r : List Int) (S : Nat → Prop) (hs : a.eval s = v) (hown : CharOwn w base v l)
    (p : Option Addr) (c : Nat) (hx : a.eval x = .slice p r.length c) (hr : CharRd w S (.slice p r.length c) r) (hnil : NilOk (.slice p r.length c)) (hb : (l.length + r.length) * 4 ≤ 140737488355328) (hbase : base ≤ w.heap.size)
    (h : ∀ v' w', CharOwn w' base v' (l ++ r) → w.grownBy w' v.ownBlock → wpList Try.prog ops Q rest (a.put o.dst v') w') : wpList Try.prog ops Q (o :: rest) a w := by
  obtain ⟨i0, hi, hz0, hz1, hz2⟩ := info_parts infoC
  cases p with
  | none =>
    have hn : r = [] := by
      rcases Nat.eq_zero_or_pos r.length with h0 | h0
      · exact List.eq_nil_of_length_eq_zero h0
      · obtain ⟨b, off, h', _⟩ := Rd.addr hr h0; cases h'
    subst hn
    obtain rfl : c = 0 := hnil _ _ rfl
    exact wpList_append_own_none hgd s x 22 ho base 29 i0 1 Try.underlying22 hi v l.length (ccells l) hs hown hx (h v w (by simpa using hown) (World.grownBy.refl _ _))
  | some ad =>
    refine wpList_append_own w hgd s x 22 ho base 29 i0 (.int .i32 0) 1 4 Try.underlying22 hi hz0 hz1 hz2 rfl (by decide) v l.length (ccells l) hs hown ad r.length c (ccells r) hx (by first | rw [ccells_len, Nat.mul_one] | rw [ccells_len]) ?_ (ccells_one _) (by unfold maxLen; omega) hb hbase ?_
    · intro j u hu
      have hj : j < r.length * 1 := by have := (List.getElem?_eq_some_iff.1 hu).1; rw [ccells_len] at this; omega
      obtain ⟨b, off, he, _, _, hc⟩ := Rd.addr hr (by omega)
      injection he with he
      subst he
      have := hc j u hu
      rw [show (⟨b, off, none⟩ : Addr).add j = ⟨b, off + j, none⟩ from by unfold Addr.add; split <;> simp_all]
      exact this
    · intro v' w' h1 h2 _
      refine h v' w' ?_ h2
      unfold CharOwn
      rw [List.length_append, ccells_app]
      exact h1

theorem wpList_append_P {w : World} {ops : Array Oper} {rest : List Oper} {o : Oper} {a : Act} {Q : Exit → Act → World → Prop} (hgd : o.guard = none) (s x : Operand)
    (ho : o.op = .call { callee := .builtin .append, args := #[s, x], argTypes := #[50, 50] }) (base : Nat) (v : Value) (l r : List Pc) (S : Nat → Prop) (hs : a.eval s = v) (hown : PcsOwn w base v l)
    (p : Option Addr) (c : Nat) (hx : a.eval x = .slice p r.length c) (hr : PcsRd w S (.slice p r.length c) r) (hnil : NilOk (.slice p r.length c)) (hb : (l.length + r.length) * 24 ≤ 140737488355328) (hbase : base ≤ w.heap.size)
    (h : ∀ v' w', PcsOwn w' base v' (l ++ r) → w.grownBy w' v.ownBlock → wpList Try.prog ops Q rest (a.put o.dst v') w') : wpList Try.prog ops Q (o :: rest) a w := by
  obtain ⟨i0, hi, hz0, hz1, hz2⟩ := info_parts infoP
  cases p with
  | none =>
    have hn : r = [] := by
      rcases Nat.eq_zero_or_pos r.length with h0 | h0
      · exact List.eq_nil_of_length_eq_zero h0
      · obtain ⟨b, off, h', _⟩ := Rd.addr hr h0; cases h'
    subst hn
    obtain rfl : c = 0 := hnil _ _ rfl
    exact wpList_append_own_none hgd s x 50 ho base 58 i0 3 Try.underlying50 hi v l.length (pcells l) hs hown hx (h v w (by simpa using hown) (World.grownBy.refl _ _))
  | some ad =>
    refine wpList_append_own w hgd s x 50 ho base 58 i0 (.agg #[.bool false, .int .i64 0, .int .i64 0]) 3 24 Try.underlying50 hi hz0 hz1 hz2 rfl (by decide) v l.length (pcells l) hs hown ad r.length c (pcells r) hx (by first | rw [pcells_len, Nat.mul_one] | rw [pcells_len]) ?_ (pcells_one _) (by unfold maxLen; omega) hb hbase ?_
    · intro j u hu
      have hj : j < r.length * 3 := by have := (List.getElem?_eq_some_iff.1 hu).1; rw [pcells_len] at this; omega
      obtain ⟨b, off, he, _, _, hc⟩ := Rd.addr hr (by omega)
      injection he with he
      subst he
      have := hc j u hu
      rw [show (⟨b, off, none⟩ : Addr).add j = ⟨b, off + j, none⟩ from by unfold Addr.add; split <;> simp_all]
      exact this
    · intro v' w' h1 h2 _
      refine h v' w' ?_ h2
      unfold PcsOwn
      rw [List.length_append, pcells_app]
      exact h1
end Go.Proofs.Ytelaiafpfaohfaa
