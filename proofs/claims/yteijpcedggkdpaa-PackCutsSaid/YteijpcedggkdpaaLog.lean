/-
  A log's methods: contracts.
-/
import Derived.Test.YteijpcedggkdpaaEnt
namespace Go.Proofs.Yteijpcedggkdpaa
open Go.RowKit

theorem EntsRd.keep {w w' : World} {S S' : Nat → Prop} {v : Value} {es : List Ent} (h : EntsRd w S v es) (hk : ∀ k, k < w.heap.size → S k → w'.heap[k]? = w.heap[k]?) (hs : ∀ k, S k → k < w.heap.size → S' k) : EntsRd w' S' v es := by
  obtain ⟨cs, ho, hE⟩ := h
  exact ⟨cs, Rd.keep ho hk hs (by decide), hE.imp fun c e _ ⟨s, hs', hq⟩ => ⟨s, hs', Rd.keep hq hk hs (by decide)⟩⟩
theorem EntsRd.below {w w' : World} {S : Nat → Prop} {v : Value} {es : List Ent} (h : EntsRd w S v es) (hb : Below w.heap.size w w') : EntsRd w' S v es :=
  h.keep (fun k hk _ => hb.block k hk) fun _ hk _ => hk
theorem EntsOwn.rd {w : World} {base : Nat} {v : Value} {es : List Ent} (h : EntsOwn w base v es) : EntsRd w (fun k => base ≤ k ∧ k < w.heap.size) v es := by
  obtain ⟨cs, ho, hE⟩ := h
  exact ⟨cs, Rd.of_own ho, hE.imp fun c e _ ⟨s, hs', hq⟩ => ⟨s, hs', Rd.of_own hq⟩⟩

theorem EntsRd.cut {w : World} {S : Nat → Prop} {p : Option Addr} {c k : Nat} {es : List Ent} (h : EntsRd w S (.slice p es.length c) es) (hk : k ≤ es.length) : EntsRd w S (.slice (if c = k then p else p.map (·.add (k * 4))) (es.length - k) (c - k)) (es.drop k) := by
  obtain ⟨cs, hr, hE⟩ := h
  exact ⟨cs.drop (k * 4), by rw [List.length_drop]; exact Rd.cut hr hk, hE.drop k⟩
theorem EntsRd.front {w : World} {S : Nat → Prop} {p : Option Addr} {c k : Nat} {es : List Ent} (h : EntsRd w S (.slice p es.length c) es) (hk : k ≤ es.length) : EntsRd w S (.slice p k c) (es.take k) := by
  obtain ⟨cs, hr, hE⟩ := h
  exact ⟨cs.take (k * 4), by rw [List.length_take, Nat.min_eq_left hk]; exact Rd.front hr hk, hE.take k⟩
theorem EntsOwn.set_ {w : World} {base g : Nat} {t : TypeId} {v : Value} {es : List Ent} {c : Array Value} (h : EntsOwn w base v es) (hg : Blk w g t c) (h1 : 44 ≠ t) (h2 : 5 ≠ t) (i : Nat) (u : Value) : EntsOwn (w.setCell ⟨g, i, none⟩ u) base v es := by
  obtain ⟨cs, ho, hE⟩ := h
  exact ⟨cs, own_set ho hg h1 _ _, hE.imp fun c e _ ⟨s, hs, hq⟩ => ⟨s, hs, own_set hq hg h2 _ _⟩⟩
theorem Fits.drop {es : List Ent} (h : Fits es) (k : Nat) : Fits (es.drop k) := fun e he => h e (List.mem_of_mem_drop he)
theorem Fits.take {es : List Ent} (h : Fits es) (k : Nat) : Fits (es.take k) := fun e he => h e (List.mem_of_mem_take he)

/-- The block b is a log of that base and those entries; what it leads to lies in S. -/
def LogAt (w : World) (S : Nat → Prop) (b : Nat) (base : Int) (es : List Ent) : Prop :=
  ∃ p c, Blk w b 56 #[.int .u64 base, .slice p es.length c, .bool true] ∧ EntsRd w S (.slice p es.length c) es ∧ ¬ S b

/-- Its numbers are in bounds. -/
structure LogOk (base : Int) (es : List Ent) : Prop where
  fits : Fits es
  len : es.length ≤ 64
  low : 0 ≤ base
  high : base ≤ 4611686018427387904

theorem log_none {w : World} {b : Nat} {x y : Value} (h : Blk w b 56 #[x, y, .bool true]) :
    Calls Try.prog 25 #[.pointer (some ⟨b, 0, none⟩)] w fun e w' => e = .returned (.bool false) ∧ w = w' := by
  obtain ⟨a0, a1, a2, f0, f1, f2, hz⟩ := h.c3
  clear h
  go_enter Try.func25, Try.ntmps25
  go_wp2
  go_ret
  exact ⟨rfl, rfl⟩

theorem log_Base {w : World} {b : Nat} {n : Int} {y : Value} (h : Blk w b 56 #[.int .u64 n, y, .bool true]) :
    Calls Try.prog 10 #[.pointer (some ⟨b, 0, none⟩)] w fun e w' => e = .returned (.int .u64 n) ∧ w = w' := by
  obtain ⟨a0, a1, a2, f0, f1, f2, hz⟩ := h.c3
  have H := Lib.hid h
  clear h
  go_enter Try.func10, Try.ntmps10
  go_wp2_with fail
  refine (log_none H.out).mono ?_
  rintro e w' ⟨rfl, rfl⟩
  go_wp2
  go_ret
  exact ⟨rfl, rfl⟩

theorem log_Len {w : World} {b : Nat} {x : Value} {p : Option Addr} {n c : Nat} (h : Blk w b 56 #[x, .slice p n c, .bool true]) :
    Calls Try.prog 22 #[.pointer (some ⟨b, 0, none⟩)] w fun e w' => e = .returned (.int .i64 n) ∧ w = w' := by
  obtain ⟨a0, a1, a2, f0, f1, f2, hz⟩ := h.c3
  have H := Lib.hid h
  clear h
  go_enter Try.func22, Try.ntmps22
  go_wp2_with fail
  refine (log_none H.out).mono ?_
  rintro e w' ⟨rfl, rfl⟩
  go_wp2
  go_ret
  exact ⟨rfl, rfl⟩

theorem log_Op {w : World} {b : Nat} {m : Int} {p : Option Addr} {n c : Nat} (h : Blk w b 56 #[.int .u64 m, .slice p n c, .bool true]) (h0 : 0 ≤ m) (h1 : m ≤ 4611686018427387904) (h2 : n ≤ 64) :
    Calls Try.prog 14 #[.pointer (some ⟨b, 0, none⟩)] w fun e w' => e = .returned (.int .u64 (m + n)) ∧ w = w' := by
  have H := Lib.hid h
  clear h
  go_enter Try.func14, Try.ntmps14
  go_wp2_with fail
  refine (log_Base H.out).mono ?_
  rintro e w' ⟨rfl, rfl⟩
  go_wp2_with fail
  refine (log_Len H.out).mono ?_
  rintro e w' ⟨rfl, rfl⟩
  go_wp2
  go_ret
  exact ⟨rfl, rfl⟩

/-- What a method leaves of the memory that it names: the old, and what it made. -/
def More (S : Nat → Prop) (w w' : World) : Nat → Prop := fun k => (S k ∧ k < w.heap.size) ∨ (w.heap.size ≤ k ∧ k < w'.heap.size)

/-- A new list is stored into the log's block: the log holds it. -/
theorem LogAt.stored {w w4 : World} {S : Nat → Prop} {b : Nat} {base : Int} {v0 : Value} {es : List Ent} {p : Option Addr} {c : Nat}
    (hb : b < w.heap.size) (kb : Blk w4 b 56 #[.int .u64 base, v0, .bool true])
    (hE : EntsRd w4 (More S w w4) (.slice p es.length c) es) (hSb : ¬ S b) (hk : ∀ k, k < w.heap.size → k ≠ b → w4.heap[k]? = w.heap[k]?) (ho : w4.os = w.os) (ht : w4.tape = w.tape) (hu : w4.output = w.output) (hz : w.heap.size ≤ w4.heap.size) :
    LogAt (w4.setCell ⟨b, 1, none⟩ (.slice p es.length c)) (More S w (w4.setCell ⟨b, 1, none⟩ (.slice p es.length c))) b base es ∧ Ext (· = b) w (w4.setCell ⟨b, 1, none⟩ (.slice p es.length c)) ∧
      Blk (w4.setCell ⟨b, 1, none⟩ (.slice p es.length c)) b 56 #[.int .u64 base, .slice p es.length c, .bool true] := by
  have hsz : (w4.setCell ⟨b, 1, none⟩ (.slice p es.length c)).heap.size = w4.heap.size := by simp [World.setCell]
  have kb' : Blk (w4.setCell ⟨b, 1, none⟩ (.slice p es.length c)) b 56 #[.int .u64 base, .slice p es.length c, .bool true] := by simpa using kb.set_ 1 (.slice p es.length c)
  refine ⟨⟨p, c, kb', ?_, ?_⟩, ⟨ho, ht, hu, by omega, fun k hk1 hk2 => ?_⟩, kb'⟩
  · refine hE.keep (fun k _ hS => heap_setCell_other w4 ⟨b, 1, none⟩ k _ ?_) (fun k hS _ => hS.imp id fun h => ⟨h.1, by omega⟩)
    rintro rfl
    rcases hS with h | h
    · exact hSb h.1
    · omega
  · rintro (h | h)
    · exact hSb h.1
    · omega
  · exact (heap_setCell_other w4 ⟨b, 1, none⟩ k _ hk2).trans (hk k hk1 hk2)

end Go.Proofs.Yteijpcedggkdpaa
