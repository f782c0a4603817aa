/-
  A log's methods: contracts.
-/
import Derived.Test.YtgmekodfkhihiaaEnt22
namespace Go.Proofs.Ytgmekodfkhihiaa
open Go.RowKit

theorem EntsRd.keep {w w' : World} {S S' : Nat → Prop} {v : Value} {es : List Ent} (h : EntsRd w S v es) (hk : ∀ k, k < w.heap.size → S k → w'.heap[k]? = w.heap[k]?) (hs : ∀ k, S k → k < w.heap.size → S' k) : EntsRd w' S' v es := by
  obtain ⟨cs, ho, hE⟩ := h
  exact ⟨cs, Rd.keep ho hk hs (by decide), hE.imp fun c e _ ⟨s, hs', hq⟩ => ⟨s, hs', Rd.keep hq hk hs (by decide)⟩⟩
theorem EntsRd.below {w w' : World} {S : Nat → Prop} {v : Value} {es : List Ent} (h : EntsRd w S v es) (hb : Below w.heap.size w w') : EntsRd w' S v es :=
  h.keep (fun k hk _ => hb.block k hk) fun _ hk _ => hk
theorem EntsOwn.rd {w : World} {base : Nat} {v : Value} {es : List Ent} (h : EntsOwn w base v es) : EntsRd w (fun k => base ≤ k ∧ k < w.heap.size) v es := by
  obtain ⟨cs, ho, hE⟩ := h
  exact ⟨cs, Rd.of_own ho, hE.imp fun c e _ ⟨s, hs', hq⟩ => ⟨s, hs', Rd.of_own hq⟩⟩

theorem EntsRd.cut {w : World} {S : Nat → Prop} {p : Option Addr} {c k : Nat} {es : List Ent} (h : EntsRd w S (.slice p es.length c) es) (hk : k ≤ es.length) : EntsRd w S (.slice (if c = k then p else p.map (·.add (k * 4))) (es.length - k) (c - k)) (es.drop k) := by
  obtain ⟨cs, hr, hE⟩ := h
  exact ⟨cs.drop (k * 4), by rw [List.length_drop]; exact Rd.cut hr hk, hE.drop k⟩
theorem EntsRd.front {w : World} {S : Nat → Prop} {p : Option Addr} {c k : Nat} {es : List Ent} (h : EntsRd w S (.slice p es.length c) es) (hk : k ≤ es.length) : EntsRd w S (.slice p k c) (es.take k) := by
  obtain ⟨cs, hr, hE⟩ := h
  exact ⟨cs.take (k * 4), by rw [List.length_take, Nat.min_eq_left hk]; exact Rd.front hr hk, hE.take k⟩
theorem EntsOwn.set_ {w : World} {base g : Nat} {t : TypeId} {v : Value} {es : List Ent} {c : Array Value} (h : EntsOwn w base v es) (hg : Blk w g t c) (h1 : 32 ≠ t) (h2 : 5 ≠ t) (i : Nat) (u : Value) : EntsOwn (w.setCell ⟨g, i, none⟩ u) base v es := by
  obtain ⟨cs, ho, hE⟩ := h
  exact ⟨cs, own_set ho hg h1 _ _, hE.imp fun c e _ ⟨s, hs, hq⟩ => ⟨s, hs, own_set hq hg h2 _ _⟩⟩
theorem Fits.drop {es : List Ent} (h : Fits es) (k : Nat) : Fits (es.drop k) := fun e he => h e (List.mem_of_mem_drop he)
theorem Fits.take {es : List Ent} (h : Fits es) (k : Nat) : Fits (es.take k) := fun e he => h e (List.mem_of_mem_take he)

/-- What a method leaves of the memory that it names: the old, and what it made. -/
def More (S : Nat → Prop) (w w' : World) : Nat → Prop := fun k => (S k ∧ k < w.heap.size) ∨ (w.heap.size ≤ k ∧ k < w'.heap.size)

end Go.Proofs.Ytgmekodfkhihiaa
