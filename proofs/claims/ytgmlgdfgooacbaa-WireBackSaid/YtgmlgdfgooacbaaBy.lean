/-
  Slices of bytes over any program that has them: what they read as; Clone, append, Equal, a string's bytes. No condition.
-/
import Derived.Test.YtgmlgdfgooacbaaCore
import Derived.Test.YtgmlgdfgooacbaaProg
import Derived.Lib.SliceRun
import Derived.Laws.BytesArg
import Derived.Laws.AppendOwnNone
import Derived.Deep.DeepAppendWide
import Derived.Lib.ConvBytes
namespace Go.Proofs.Ytgmlgdfgooacbaa
open Go.RowKit
set_option linter.unusedSimpArgs false

theorem infoB : (Try.prog.info? 5).map (fun i => (i.zero, i.size, i.bytes)) = some (some (.int .u8 0), 1, 1) := by kernel_rfl

def bcells (l : List UInt8) : List Value := l.map fun b => .int .u8 b.toNat
theorem bcells_len (l : List UInt8) : (bcells l).length = l.length := by simp [bcells]
theorem bcells_app (l r : List UInt8) : bcells (l ++ r) = bcells l ++ bcells r := by simp [bcells]
theorem bcells_one (l : List UInt8) : ∀ u ∈ bcells l, u.oneCell' = true := by
  intro u hu; obtain ⟨x, _, rfl⟩ := List.mem_map.1 hu; rfl
theorem bcells_drop (l : List UInt8) (k : Nat) : bcells (l.drop k) = (bcells l).drop k := by simp [bcells]
theorem bcells_take (l : List UInt8) (k : Nat) : bcells (l.take k) = (bcells l).take k := by simp [bcells]

/-- A slice of bytes that reads so. -/
def CmdRd (w : World) (S : Nat → Prop) (s : Value) (b : List UInt8) : Prop := Rd w S 1 s b.length (bcells b)
/-- A slice of bytes in memory from base on. -/
def CmdOwn (w : World) (base : Nat) (s : Value) (b : List UInt8) : Prop := w.ownsRow base 5 1 s b.length (bcells b)
theorem CmdOwn.rd {w : World} {base : Nat} {s : Value} {b : List UInt8} (h : CmdOwn w base s b) : CmdRd w (fun k => base ≤ k ∧ k < w.heap.size) s b := Rd.of_own h
theorem CmdOwn.below {w w' : World} {base : Nat} {s : Value} {b : List UInt8} (h : CmdOwn w base s b) (hb : Below w.heap.size w w') : CmdOwn w' base s b := own_below h hb
theorem CmdOwn.base {w : World} {base base' : Nat} {s : Value} {b : List UInt8} (h : CmdOwn w base s b) (hb : base' ≤ base) : CmdOwn w base' s b := own_base h hb
theorem CmdOwn.slice {w : World} {base : Nat} {s : Value} {b : List UInt8} (h : CmdOwn w base s b) : ∃ p c, s = .slice p b.length c := own_slice h
theorem CmdRd.below {w w' : World} {S : Nat → Prop} {s : Value} {b : List UInt8} (h : CmdRd w S s b) (hb : Below w.heap.size w w') : CmdRd w' S s b := Rd.below h (by decide) hb
theorem CmdRd.slice {w : World} {S : Nat → Prop} {s : Value} {b : List UInt8} (h : CmdRd w S s b) : ∃ p c, s = .slice p b.length c := Rd.slice h
theorem CmdRd.cut {w : World} {S : Nat → Prop} {p : Option Addr} {c k : Nat} {b : List UInt8} (h : CmdRd w S (.slice p b.length c) b) (hk : k ≤ b.length) : CmdRd w S (.slice (if c = k then p else p.map (·.add (k * 1))) (b.length - k) (c - k)) (b.drop k) := by
  have h1 := Rd.cut h hk
  rw [Nat.mul_one] at h1
  unfold CmdRd
  rw [bcells_drop, List.length_drop, Nat.mul_one]
  exact h1
theorem CmdRd.front {w : World} {S : Nat → Prop} {p : Option Addr} {c k : Nat} {b : List UInt8} (h : CmdRd w S (.slice p b.length c) b) (hk : k ≤ b.length) : CmdRd w S (.slice p k c) (b.take k) := by
  have h1 := Rd.front h hk
  rw [Nat.mul_one] at h1
  unfold CmdRd
  rw [bcells_take, List.length_take, Nat.min_eq_left hk]
  exact h1

set_option maxHeartbeats 400000 in
theorem bytes_Clone {w : World} {S : Nat → Prop} {v : Value} {n : Nat} {cs : List Value} (h : Rd w S 1 v n cs) (h1 : ∀ u ∈ cs, u.oneCell' = true) (hb : n ≤ 200000000000000) :
    Calls Try.prog 38 #[v] w fun e w' => ∃ p c, e = .returned (.slice p n c) ∧ w'.ownsRow w.heap.size 5 1 (.slice p n c) n cs ∧ Below w.heap.size w w' := by
  obtain ⟨i0, hi, hz0, hz1, hz2⟩ := info_parts infoB
  obtain ⟨hl, p, c, rfl, hc, hm, hr⟩ := h
  have q := fun (w : World) (a : Option Addr) (n c n' c' : Nat) => Lib.run_eql_slice_nil (P := Try.prog) w 23 5 a n c n' c' Try.underlying23
  cases p with
  | none =>
    have hn : n = 0 := by
      rcases Nat.eq_zero_or_pos n with h | h
      · exact h
      · obtain ⟨b, off, h', _⟩ := hr h; cases h'
    subst hn
    have : cs = [] := List.eq_nil_of_length_eq_zero (by simpa using hl)
    subst this
    clear hr
    go_enter Try.func38, Try.ntmps38
    go_wp2
    go_ret
    exact ⟨_, _, rfl, World.ownsRow_nil _ _ _ _, Below.refl _ _⟩
  | some a =>
    have hnew : ∀ (j : Nat) u, cs[j]? = some u → w.cell? (a.add j) = some u := by
      intro j u hu
      have hj : j < cs.length := (List.getElem?_eq_some_iff.1 hu).1
      obtain ⟨b, off, h', _, hcell⟩ := hr (by omega)
      cases h'
      have := hcell j u hu
      unfold Addr.add
      split
      · subst j; simpa using this
      · exact this
    have H := Lib.hid hnew
    have H1 := Lib.hid h1
    have Hl := Lib.hid hl
    clear hr hnew h1 hl
    go_enter Try.func38, Try.ntmps38
    go_wp2_with (at_builtin; refine wpList_append_own_wide _ rfl _ _ 23 rfl w.heap.size 5 i0 (.int .u8 0) 1 1 Try.underlying23 hi hz0 hz1 hz2 rfl (by decide) _ _ _ rfl (World.ownsRow_made w #[] 0 (Nat.le_refl _) (Nat.zero_le _) rfl) a n c cs rfl ?c1 ?c2 H1.out ?c4 ?c5 ?c6 ?_)
    case c1 => exact Hl.out
    case c2 => intro j u hu; exact Lib.cell?_alloc_some _ (H.out j u hu)
    case c4 => omega
    case c5 => omega
    case c6 => simp
    intro v' w1 hown hgrow hnil
    clear hnil
    obtain ⟨p, c', rfl⟩ := own_slice hown
    go_wp2
    go_ret
    refine ⟨p, c', by simp, by simpa using hown, ?_⟩
    exact ((Below.refl _ w).alloc (Nat.le_refl _) _).grown hgrow (by simp) (by intro k hk; simp [Value.ownBlock] at hk; omega)

set_option maxHeartbeats 400000 in
theorem slices_Clone_B {w : World} {S : Nat → Prop} {v : Value} {n : Nat} {cs : List Value} (h : Rd w S 1 v n cs) (h1 : ∀ u ∈ cs, u.oneCell' = true) (hb : n ≤ 200000000000000) :
    Calls Try.prog 45 #[v] w fun e w' => ∃ p c, e = .returned (.slice p n c) ∧ w'.ownsRow w.heap.size 5 1 (.slice p n c) n cs ∧ Below w.heap.size w w' := by
  obtain ⟨i0, hi, hz0, hz1, hz2⟩ := info_parts infoB
  obtain ⟨hl, p, c, rfl, hc, hm, hr⟩ := h
  have q := fun (w : World) (a : Option Addr) (n c n' c' : Nat) => Lib.run_eql_slice_nil (P := Try.prog) w 23 5 a n c n' c' Try.underlying23
  cases p with
  | none =>
    have hn : n = 0 := by
      rcases Nat.eq_zero_or_pos n with h | h
      · exact h
      · obtain ⟨b, off, h', _⟩ := hr h; cases h'
    subst hn
    have : cs = [] := List.eq_nil_of_length_eq_zero (by simpa using hl)
    subst this
    clear hr
    go_enter Try.func45, Try.ntmps45
    go_wp2
    go_ret
    exact ⟨_, _, rfl, World.ownsRow_nil _ _ _ _, Below.refl _ _⟩
  | some a =>
    have hnew : ∀ (j : Nat) u, cs[j]? = some u → w.cell? (a.add j) = some u := by
      intro j u hu
      have hj : j < cs.length := (List.getElem?_eq_some_iff.1 hu).1
      obtain ⟨b, off, h', _, hcell⟩ := hr (by omega)
      cases h'
      have := hcell j u hu
      unfold Addr.add
      split
      · subst j; simpa using this
      · exact this
    have H := Lib.hid hnew
    have H1 := Lib.hid h1
    have Hl := Lib.hid hl
    clear hr hnew h1 hl
    go_enter Try.func45, Try.ntmps45
    go_wp2_with (at_builtin; refine wpList_append_own_wide _ rfl _ _ 23 rfl w.heap.size 5 i0 (.int .u8 0) 1 1 Try.underlying23 hi hz0 hz1 hz2 rfl (by decide) _ _ _ rfl (World.ownsRow_made w #[] 0 (Nat.le_refl _) (Nat.zero_le _) rfl) a n c cs rfl ?c1 ?c2 H1.out ?c4 ?c5 ?c6 ?_)
    case c1 => exact Hl.out
    case c2 => intro j u hu; exact Lib.cell?_alloc_some _ (H.out j u hu)
    case c4 => omega
    case c5 => omega
    case c6 => simp
    intro v' w1 hown hgrow hnil
    clear hnil
    obtain ⟨p, c', rfl⟩ := own_slice hown
    go_wp2
    go_ret
    refine ⟨p, c', by simp, by simpa using hown, ?_⟩
    exact ((Below.refl _ w).alloc (Nat.le_refl _) _).grown hgrow (by simp) (by intro k hk; simp [Value.ownBlock] at hk; omega)

theorem nums_str (bs : List UInt8) : strOfNums (bs.map fun b => (b.toNat : Int)) = ⟨bs.toArray⟩ := by
  unfold strOfNums
  rw [List.map_map]
  have h : ∀ b ∈ bs, ((fun n : Int => UInt8.ofNat n.toNat) ∘ fun b : UInt8 => (b.toNat : Int)) b = b := fun b _ => by simp
  rw [List.map_congr_left h, List.map_id']

theorem run_convert_zero (w : World) (src e : TypeId) (hs : Try.prog.underlying src = some (.slice e)) (he : Try.prog.underlying e = some (.int .u8)) (p : Option Addr) (c dst : Nat) (hd : Try.prog.underlying dst = some .string) :
    (convert src dst (.slice p 0 c)).run Try.prog w = .ok (.string ⟨#[]⟩) w := by
  cases p with
  | none => exact run_convert_bytes_nil w src e hs he 0 c dst hd
  | some a =>
    rw [run_convert_bytes_string w src dst e _ 0 c hs he hd]
    simp [Conv.bytesToString, loadCells, loadCellsFrom]
    rfl

/-- 'string(b)'. -/
theorem Rd.str {w : World} {S : Nat → Prop} {p : Option Addr} {c : Nat} {bs : List UInt8} (h : Rd w S 1 (.slice p bs.length c) bs.length (bcells bs)) :
    (convert 23 9 (.slice p bs.length c)).run Try.prog w = .ok (.string ⟨bs.toArray⟩) w := by
  rcases Nat.eq_zero_or_pos bs.length with h0 | h0
  · have : bs = [] := List.eq_nil_of_length_eq_zero h0
    subst this
    exact run_convert_zero w _ 5 Try.underlying23 Try.underlying5 p c _ Try.underlying9
  · obtain ⟨b, off, he, _, _, hc⟩ := Rd.addr h h0
    subst he
    rw [← nums_str]
    refine run_convert_bytes_arg w _ 5 Try.underlying23 Try.underlying5 b off bs.length c (bs.map fun b => (b.toNat : Int)) (by simp) ?_ _ Try.underlying9
    intro i hi
    refine hc i _ ?_
    simp [bcells, List.getElem?_eq_getElem hi]

set_option maxHeartbeats 400000 in
theorem bytes_Equal {w : World} {S T : Nat → Prop} {v u : Value} {a b : List UInt8} (h : CmdRd w S v a) (k : CmdRd w T u b) :
    Calls Try.prog 18 #[v, u] w fun e w' => e = .returned (.bool (a == b)) ∧ w = w' := by
  obtain ⟨p, c, rfl⟩ := Rd.slice h
  obtain ⟨q, d, rfl⟩ := Rd.slice k
  have h1 := Rd.str h
  have h2 := Rd.str k
  clear h k
  go_enter Try.func18, Try.ntmps18
  go_wp2
  go_ret
  exact ⟨rfl, rfl⟩

/-- No spare places behind nil. -/
def NilOk (v : Value) : Prop := ∀ n c, v = .slice none n c → c = 0
theorem NilOk.own {w : World} {base : Nat} {s : Value} {b : List UInt8} (h : CmdOwn w base s b) : NilOk s := by
  intro n c hs
  rcases h.2 with ⟨h1, _⟩ | ⟨g, cap, cur, h1, _⟩
  · rw [hs] at h1; injection h1 with _ _ h1
  · rw [hs] at h1; cases h1
theorem NilOk.some {a : Addr} {n c : Nat} : NilOk (.slice (some a) n c) := by intro n c h; cases h
theorem NilOk.nil : NilOk (.slice none 0 0) := by intro n c h; injection h with _ _ h; exact h.symm

set_option maxRecDepth 100000 in
/-- An append of a slice that reads so onto a row of the call's own. -/
theorem wpList_append_rd {w : World} {ops : Array Oper} {rest : List Oper} {o : Oper} {a : Act} {Q : Exit → Act → World → Prop} (hgd : o.guard = none) (s x : Operand)
    (ho : o.op = .call { callee := .builtin .append, args := #[s, x], argTypes := #[23, 23] }) (base : Nat) (v : Value) (l r : List UInt8) (S : Nat → Prop) (hs : a.eval s = v) (hown : CmdOwn w base v l)
    (p : Option Addr) (c : Nat) (hx : a.eval x = .slice p r.length c) (hr : CmdRd w S (.slice p r.length c) r) (hnil : NilOk (.slice p r.length c)) (hb : l.length + r.length ≤ 200000000000000) (hbase : base ≤ w.heap.size)
    (h : ∀ v' w', CmdOwn w' base v' (l ++ r) → w.grownBy w' v.ownBlock → wpList Try.prog ops Q rest (a.put o.dst v') w') : wpList Try.prog ops Q (o :: rest) a w := by
  obtain ⟨i0, hi, hz0, hz1, hz2⟩ := info_parts infoB
  cases p with
  | none =>
    have hn : r = [] := by
      rcases Nat.eq_zero_or_pos r.length with h0 | h0
      · exact List.eq_nil_of_length_eq_zero h0
      · obtain ⟨b, off, h', _⟩ := Rd.addr hr h0; cases h'
    subst hn
    obtain rfl : c = 0 := hnil _ _ rfl
    exact wpList_append_own_none hgd s x 23 ho base 5 i0 1 Try.underlying23 hi v l.length (bcells l) hs hown hx (h v w (by simpa using hown) (World.grownBy.refl _ _))
  | some ad =>
    refine wpList_append_own_wide w hgd s x 23 ho base 5 i0 (.int .u8 0) 1 1 Try.underlying23 hi hz0 hz1 hz2 rfl (by decide) v l.length (bcells l) hs hown ad r.length c (bcells r) hx (by rw [bcells_len, Nat.mul_one]) ?_ (bcells_one _) (by unfold maxLen; omega) (by omega) hbase ?_
    · intro j u hu
      have hj : j < r.length := by have := (List.getElem?_eq_some_iff.1 hu).1; rw [bcells_len] at this; exact this
      obtain ⟨b, off, he, _, _, hc⟩ := Rd.addr hr (by omega)
      injection he with he
      subst he
      have := hc j u hu
      rw [show (⟨b, off, none⟩ : Addr).add j = ⟨b, off + j, none⟩ from by unfold Addr.add; split <;> simp_all]
      exact this
    · intro v' w' h1 h2 _
      refine h v' w' ?_ h2
      unfold CmdOwn
      rw [List.length_append, bcells_app]
      exact h1
end Go.Proofs.Ytgmlgdfgooacbaa
