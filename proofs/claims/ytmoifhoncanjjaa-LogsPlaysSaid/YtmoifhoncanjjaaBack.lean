/-
  slices.Backward over entries: the iterator's contract: it hands out the entries from the last one to the first one. Condition: at most 64 entries.
-/
import Derived.RangeFuncNested
import Derived.RangeFuncBound
import Derived.RangeFuncCalls
import Derived.RangeFuncLeaves
import Derived.Shelf.Abstract
import Derived.Shelf.RegionOpen
import Derived.WalkKit
import Derived.OwnWalkIn
import Derived.TacticsInMore
import Derived.LoopNIn
import Derived.LoopIn
import Derived.Test.YtmoifhoncanjjaaLogGet
namespace Go.Proofs.Ytmoifhoncanjjaa
open Go.RowKit Go.Shelf

attribute [local go_sem] Oper.semAt_some

/-- What a round is handed: an index, an entry, its command's slice. -/
structure Itm where
  i : Nat
  e : Ent
  p : Option Addr
  c : Nat
def Itm.val (x : Itm) : Value := .agg #[.int .u64 x.e.t, .int .u32 x.e.c, .int .u64 x.e.r, .slice x.p x.e.cmd.length x.c]

def upto {α : Type} (f : Nat → α) (k : Nat) : List α := (List.range k).map f
theorem upto_succ {α : Type} (f : Nat → α) (k : Nat) : upto f (k + 1) = upto f k ++ [f k] := by simp [upto, List.range_succ]
theorem upto_length {α : Type} (f : Nat → α) (k : Nat) : (upto f k).length = k := by simp [upto]

/-- The entry f lies at cell o of block b. -/
def ItmAt (W : World) (b o : Nat) (f : Itm) : Prop :=
  W.cell? ⟨b, o, none⟩ = some (.int .u64 f.e.t) ∧ W.cell? ⟨b, o + 1, none⟩ = some (.int .u32 f.e.c) ∧ W.cell? ⟨b, o + 2, none⟩ = some (.int .u64 f.e.r) ∧ W.cell? ⟨b, o + 3, none⟩ = some (.slice f.p f.e.cmd.length f.c)
theorem ItmAt.below {n₀ b o : Nat} {A B : World} {f : Itm} (h : ItmAt A b o f) (hb : b < n₀) (hB : Below n₀ A B) : ItmAt B b o f := by
  obtain ⟨a0, a1, a2, a3⟩ := h
  obtain ⟨hc, -⟩ := bcell hB
  exact ⟨by rw [hc _ _ hb]; exact a0, by rw [hc _ _ hb]; exact a1, by rw [hc _ _ hb]; exact a2, by rw [hc _ _ hb]; exact a3⟩

set_option maxRecDepth 100000 in
set_option maxHeartbeats 2000000 in
theorem back_1 (F : Fence) (n : Nat) (h48 : F.fn 48) (hro : F.round = none) (hn : 1 ≤ n) (l Bs n₀ b off len cap : Nat) (f : Nat → Itm) (hlen : len ≤ 64) (hle : len ≤ cap) (hBn : Bs < n₀) (hb : b < n₀) (J Jx : List Itm → World → Prop)
    (hi : ∀ j, j < len → (f j).i = j)
    (hY : ∀ pre x W, J pre W → pre.length < len → YieldAt F (n - 1) Try.prog l #[.int .i64 (x.i : Int), x.val] W fun e W' =>
      (e = .returned (.bool true) ∧ J (pre ++ [x]) W' ∧ Below n₀ W W') ∨ (e = .returned (.bool false) ∧ Jx (pre ++ [x]) W'))
    (W : World) (hBs : W.cell? ⟨Bs, 0, none⟩ = some (.slice (some ⟨b, off, none⟩) len cap)) (hc : ∀ j, j < len → ItmAt W b (off + j * 4) (f j)) (h0 : J [] W) :
    CallsIn F n Try.prog 48 #[.func (.yield l) #[] #[], .pointer (some ⟨Bs, 0, none⟩)] W fun e W' => (∃ v, e = .returned v) ∧
      ((∃ ys, ys = upto (fun j => f (len - 1 - j)) len ∧ J ys W') ∨ (∃ pre, (∃ k, k ≤ len ∧ pre = upto (fun j => f (len - 1 - j)) k) ∧ Jx pre W')) := by
  refine callsIn_of_wp Try.func48 rfl h48 ?_ hro
  simp only [Try.ntmps48, List.size_toArray, List.length_cons, List.length_nil, Nat.reduceAdd, Nat.reduceSub, Array.replicate_succ, Array.replicate_zero, List.push_toArray, List.append_toArray, List.nil_append, List.cons_append]
  gi_wp2
  gi_loopw [3] (fun i wr => ∃ k : Nat, k ≤ len ∧ i = .int .i64 ((len : Int) - 1 - k) ∧ J (upto (fun j => f (len - 1 - j)) k) wr ∧ Below n₀ W wr)
    (fun i _ => (intOf i + 1).toNat)
  case atStart => exact ⟨0, Nat.zero_le _, by go_num, h0, Below.refl _ _⟩
  case round =>
    obtain ⟨k, hk, rfl, hJs, hnx⟩ := hrel
    have hbs : wr.cell? ⟨Bs, 0, none⟩ = some (.slice (some ⟨b, off, none⟩) len cap) := (hnx.cell (p := ⟨Bs, 0, none⟩) hBn).trans hBs
    by_cases hlt : k < len
    · obtain ⟨j, hj, hjl⟩ : ∃ j : Nat, (len : Int) - 1 - k = (j : Int) ∧ j = len - 1 - k := ⟨len - 1 - k, by omega, rfl⟩
      rw [hj]
      have Hjl := Lib.hid hjl
      have hjn : j < len := by omega
      obtain ⟨a0, a1, a2, a3⟩ := (hc j (by omega)).below hb hnx
      obtain ⟨fn, tmps, assign, body, hy, hR⟩ := hY _ (f j) wr hJs (by rw [upto_length]; exact hlt)
      rw [hi j (by omega)] at hy
      dsimp only [Itm.val] at hy
      clear hjl hi hc
      gi_wp2
      refine hR.mono ?_
      rintro e W3 (⟨rfl, hJ3, hk3⟩ | ⟨rfl, hJx3⟩)
      · gi_wp2
        go_roundw
        case rel => exact ⟨k + 1, by omega, (by go_num), by rw [upto_succ]; rw [Hjl.out] at hJ3; exact hJ3, hnx.trans hk3⟩
        case measure => simp [intOf]
      · gi_wp2
        refine bodyPost_ret (results_none rfl _ _ _) rfl ?_
        exact ⟨⟨_, rfl⟩, .inr ⟨_, ⟨k + 1, by omega, by rw [upto_succ]; rw [Hjl.out]⟩, hJx3⟩⟩
    · obtain rfl : k = len := by omega
      gi_wp2
      go_end0
      exact ⟨⟨_, rfl⟩, .inl ⟨_, rfl, hJs⟩⟩

set_option maxRecDepth 100000 in
set_option maxHeartbeats 1000000 in
theorem back_nil {α : Type} (F : Fence) (n : Nat) (h48 : F.fn 48) (hro : F.round = none) (l Bs cap : Nat) (p : Option Addr) (J : List α → World → Prop) (W : World) (hBs : W.cell? ⟨Bs, 0, none⟩ = some (.slice p 0 cap)) (h0 : J [] W) :
    CallsIn F n Try.prog 48 #[.func (.yield l) #[] #[], .pointer (some ⟨Bs, 0, none⟩)] W fun e W' => (∃ v, e = .returned v) ∧ J [] W' := by
  refine callsIn_of_wp Try.func48 rfl h48 ?_ hro
  simp only [Try.ntmps48, List.size_toArray, List.length_cons, List.length_nil, Nat.reduceAdd, Nat.reduceSub, Array.replicate_succ, Array.replicate_zero, List.push_toArray, List.append_toArray, List.nil_append, List.cons_append]
  gi_wp2
  gi_loopw [3] (fun i wr => i = .int .i64 (-1) ∧ J [] wr) (fun _ _ => 0)
  case atStart => exact ⟨by go_num, h0⟩
  case round =>
    obtain ⟨rfl, hJs⟩ := hrel
    gi_wp2
    go_end0
    exact ⟨⟨_, rfl⟩, hJs⟩

set_option maxHeartbeats 1000000 in
theorem back_in (F : Fence) (n : Nat) (h41 : F.fn 41) (hro : F.round = none) (a : Option Addr) (len cap : Nat) (w : World) :
    CallsIn F n Try.prog 41 #[.slice a len cap] w fun e w' => e = .returned (.func (.func 48) #[] #[.pointer (some ⟨w.heap.size, 0, none⟩)]) ∧ w' = w.alloc (.cells #[.slice a len cap] 23) := by
  refine callsIn_of_wp Try.func41 rfl h41 ?_ hro
  simp only [Try.ntmps41, List.size_toArray, List.length_cons, List.length_nil, Nat.reduceAdd, Nat.reduceSub, Array.replicate_succ, Array.replicate_zero, List.push_toArray, List.append_toArray, List.nil_append, List.cons_append]
  gi_wp2
  go_ret
  exact ⟨rfl, rfl⟩

/-- The items of a slice of entries. -/
theorem items {w : World} {S : Nat → Prop} {v : Value} {es : List Ent} (h : EntsRd w S v es) (hn : 0 < es.length) :
    ∃ b off c, ∃ f : Nat → Itm, v = .slice (some ⟨b, off, none⟩) es.length c ∧ es.length ≤ c ∧ S b ∧ b < w.heap.size ∧ ∀ j (hj : j < es.length), (f j).i = j ∧ (f j).e = es[j] ∧ ItmAt w b (off + j * 4) (f j) := by
  obtain ⟨cs, hr, hE⟩ := h
  obtain ⟨bb, off, c, rfl, hle, _, hS, hcell⟩ := Rd.form hr hn
  have hex : ∀ j, ∃ x : Itm, ∀ hj : j < es.length, x.i = j ∧ x.e = es[j] ∧ ItmAt w bb (off + j * 4) x := by
    intro j
    by_cases hj : j < es.length
    · obtain ⟨s, hs, hq⟩ := hE.2 j es[j] (List.getElem?_eq_getElem hj)
      obtain ⟨e0, e1, e2, e3⟩ := cells4 hcell hs
      obtain ⟨sp, sc, rfl⟩ := Rd.slice hq
      exact ⟨⟨j, es[j], sp, sc⟩, fun _ => ⟨rfl, rfl, e0, e1, e2, e3⟩⟩
    · exact ⟨⟨0, ⟨0, 0, 0, []⟩, none, 0⟩, fun h => absurd h hj⟩
  refine ⟨bb, off, c, fun j => Classical.choose (hex j), rfl, hle, hS, ?_, fun j hj => Classical.choose_spec (hex j) hj⟩
  exact lt_of_cell (Classical.choose_spec (hex 0) hn).2.2.1

/-- slices.Backward hands back a value that gives the items, from the last one on; or some of them. -/
theorem back_stops (F : Fence) (n : Nat) (h48 : F.fn 48) (hro : F.round = none) (hn : 1 ≤ n) (Bs b off len cap : Nat) (f : Nat → Itm) (hlen : len ≤ 64) (hle : len ≤ cap) (w : World) (hBs : Bs < w.heap.size) (hb : b < w.heap.size)
    (hi : ∀ j, j < len → (f j).i = j) (hc : w.cell? ⟨Bs, 0, none⟩ = some (.slice (some ⟨b, off, none⟩) len cap)) (hI : ∀ j, j < len → ItmAt w b (off + j * 4) (f j)) :
    SeqStopsK F n Try.prog 48 #[.pointer (some ⟨Bs, 0, none⟩)] (fun x : Itm => #[Value.int .i64 (x.i : Int), x.val]) (Below w.heap.size) (fun ys => ys = upto (fun j => f (len - 1 - j)) len)
      (fun pre => ∃ k, k ≤ len ∧ pre = upto (fun j => f (len - 1 - j)) k) len w := fun l J Jx W hW _ _ hY h0 => by
  exact back_1 F n h48 hro hn l Bs w.heap.size b off len cap f hlen hle hBs hb J Jx hi hY W ((hW.cell (p := ⟨Bs, 0, none⟩) hBs).trans hc) (fun j hj => (hI j hj).below hb hW) h0
theorem back_stops0 {α : Type} (F : Fence) (n : Nat) (h48 : F.fn 48) (hro : F.round = none) (Bs cap : Nat) (p : Option Addr) (encs : α → Array Value) (w : World) (hBs : Bs < w.heap.size)
    (hc : w.cell? ⟨Bs, 0, none⟩ = some (.slice p 0 cap)) :
    SeqStopsK F n Try.prog 48 #[.pointer (some ⟨Bs, 0, none⟩)] encs (Below w.heap.size) (fun ys => ys = [])
      (fun _ => False) 0 w := fun l J Jx W hW _ _ hY h0 => by
  exact (back_nil F n h48 hro l Bs cap p J W ((hW.cell (p := ⟨Bs, 0, none⟩) hBs).trans hc) h0).mono fun e W' ⟨he, hj⟩ => ⟨he, .inl ⟨_, rfl, hj⟩⟩

end Go.Proofs.Ytmoifhoncanjjaa
