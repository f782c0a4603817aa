/-
  A log in new memory: its calls, said of it.
-/
import Derived.Test.YteijpcedggkdpaaLogGet
import Derived.Test.YteijpcedggkdpaaLogFrom
import Derived.Test.YteijpcedggkdpaaCutP
import Derived.Test.YteijpcedggkdpaaLogNew
namespace Go.Proofs.Yteijpcedggkdpaa
open Go.RowKit

theorem LogAt.ext {w w' : World} {S M : Nat → Prop} {b : Nat} {m : Int} {es : List Ent} (h : LogAt w S b m es) (hX : Ext M w w') (hM : ∀ j, S j → j < w.heap.size → ¬ M j) (hb : ¬ M b) : LogAt w' S b m es := by
  obtain ⟨p, c, hB, hE, hS⟩ := h
  exact ⟨p, c, hB.ext hX hb, hE.keep (fun k hk hS => hX.block k hk (hM k hS hk)) (fun _ h _ => h), hS⟩
theorem LogAt.below {w w' : World} {S : Nat → Prop} {b : Nat} {m : Int} {es : List Ent} (h : LogAt w S b m es) (hX : Below w.heap.size w w') : LogAt w' S b m es :=
  h.ext (Ext.of_below (fun _ => False) hX) (fun _ _ _ => id) id

/-- A log in memory made since W0. -/
def At (W0 w : World) (b : Nat) (m : Int) (es : List Ent) : Prop := (∃ S, LogAt w S b m es ∧ ∀ j, S j → j < w.heap.size) ∧ W0.heap.size ≤ b ∧ Below W0.heap.size W0 w

theorem At.below {W0 w w' : World} {b : Nat} {m : Int} {es : List Ent} (h : At W0 w b m es) (hX : Below w.heap.size w w') : At W0 w' b m es := by
  obtain ⟨⟨S, hL, hS⟩, hb, hw⟩ := h
  exact ⟨⟨S, hL.below hX, fun j hj => Nat.lt_of_lt_of_le (hS j hj) hX.size⟩, hb, hw.trans (hX.mono hw.size)⟩
theorem At.blk {W0 w : World} {b : Nat} {m : Int} {es : List Ent} (h : At W0 w b m es) : ∃ p c, Blk w b 56 #[.int .u64 m, .slice p es.length c, .bool true] := by
  obtain ⟨⟨S, ⟨p, c, hB, -⟩, -⟩, -⟩ := h
  exact ⟨p, c, hB⟩
theorem At.new {W0 w w' : World} {b : Nat} {m : Int} {es : List Ent} (h : NewLog w b m es w') (h0 : Below W0.heap.size W0 w) : At W0 w' b m es := by
  obtain ⟨hL, hb, hb', hX⟩ := h
  exact ⟨⟨_, hL, fun j hj => by omega⟩, by have := h0.size; omega, h0.trans (hX.mono h0.size)⟩

theorem More.lt {S : Nat → Prop} {w w' : World} (hz : w.heap.size ≤ w'.heap.size) : ∀ j, More S w w' j → j < w'.heap.size := by
  rintro j (h | h)
  · exact Nat.lt_of_lt_of_le h.2 hz
  · exact h.2

theorem Below.ext {W0 w w' : World} {b : Nat} (h0 : Below W0.heap.size W0 w) (hX : Ext (fun x => x = b) w w') (hb : W0.heap.size ≤ b) : Below W0.heap.size W0 w' :=
  Ext.from h0 hX (by rintro k rfl; exact hb)

theorem At_Cut {W0 w : World} {b k : Nat} {m : Int} {es : List Ent} (h : At W0 w b m es) (ok : LogOk m es) (hk : k ≤ es.length) :
    Calls Try.prog 18 #[.pointer (some ⟨b, 0, none⟩), .int .u64 (m + k)] w fun x w' => x = .returned (.int .i64 0) ∧ At W0 w' b (m + k) (es.drop k) ∧ Ext (fun x => x = b) w w' := by
  obtain ⟨⟨S, hL, hS⟩, hb, hw⟩ := h
  refine (log_Cut hL ok hk hS).mono ?_
  rintro x w' ⟨rfl, hL', hX⟩
  exact ⟨rfl, ⟨⟨_, hL', More.lt hX.size⟩, hb, Below.ext hw hX hb⟩, hX⟩

theorem At_Get {W0 w : World} {b k : Nat} {m : Int} {es : List Ent} (h : At W0 w b m es) (ok : LogOk m es) (hk : k < es.length) :
    Calls Try.prog 15 #[.pointer (some ⟨b, 0, none⟩), .int .u64 (m + k + 1)] w fun x w' => ∃ p c, x = .returned (.tuple #[entVal es[k] (.slice p es[k].cmd.length c), .int .i64 0]) ∧
      w'.ownsRow w.heap.size 5 1 (.slice p es[k].cmd.length c) es[k].cmd.length (bcells es[k].cmd) ∧ Below w.heap.size w w' ∧ At W0 w' b m es := by
  have h0 := h
  obtain ⟨⟨S, hL, hS⟩, hb, hw⟩ := h
  refine (log_Get hL ok hk).mono ?_
  rintro x w' ⟨p, c, rfl, ho, hX⟩
  exact ⟨p, c, rfl, ho, hX, h0.below hX⟩

theorem At_Get_none {W0 w : World} {b : Nat} {m op : Int} {es : List Ent} (h : At W0 w b m es) (ok : LogOk m es) (ho : m + es.length < op) :
    Calls Try.prog 15 #[.pointer (some ⟨b, 0, none⟩), .int .u64 op] w fun x w' => x = .returned (.tuple #[entVal ⟨0, 0, 0, []⟩ (.slice none 0 0), .int .i64 6]) ∧ Below w.heap.size w w' ∧ At W0 w' b m es := by
  have h0 := h
  obtain ⟨⟨S, hL, hS⟩, hb, hw⟩ := h
  refine (log_Get_none hL ok ho).mono ?_
  rintro x w' ⟨rfl, hX⟩
  exact ⟨rfl, hX, h0.below hX⟩
theorem At_Get_gone {W0 w : World} {b : Nat} {m op : Int} {es : List Ent} (h : At W0 w b m es) (ok : LogOk m es) (ho : op ≤ m) :
    Calls Try.prog 15 #[.pointer (some ⟨b, 0, none⟩), .int .u64 op] w fun x w' => x = .returned (.tuple #[entVal ⟨0, 0, 0, []⟩ (.slice none 0 0), .int .i64 32]) ∧ Below w.heap.size w w' ∧ At W0 w' b m es := by
  have h0 := h
  obtain ⟨⟨S, hL, hS⟩, hb, hw⟩ := h
  refine (log_Get_gone hL ok ho).mono ?_
  rintro x w' ⟨rfl, hX⟩
  exact ⟨rfl, hX, h0.below hX⟩
theorem At_From {W0 w : World} {b k : Nat} {m : Int} {es : List Ent} (h : At W0 w b m es) (ok : LogOk m es) (hk : k ≤ es.length) :
    Calls Try.prog 9 #[.pointer (some ⟨b, 0, none⟩), .int .u64 (m + k)] w fun x w' => ∃ p c, x = .returned (.tuple #[.slice p (es.drop k).length c, .int .i64 0]) ∧
      EntsOwn w' w.heap.size (.slice p (es.drop k).length c) (es.drop k) ∧ Below w.heap.size w w' ∧ At W0 w' b m es := by
  have h0 := h
  obtain ⟨⟨S, hL, hS⟩, hb, hw⟩ := h
  refine (log_From hL ok hk).mono ?_
  rintro x w' ⟨p, c, rfl, ho, hX⟩
  exact ⟨p, c, rfl, ho, hX, h0.below hX⟩
theorem At_Op {W0 w : World} {b : Nat} {m : Int} {es : List Ent} (h : At W0 w b m es) (ok : LogOk m es) :
    Calls Try.prog 14 #[.pointer (some ⟨b, 0, none⟩)] w fun e w' => e = .returned (.int .u64 (m + es.length)) ∧ w = w' := by
  obtain ⟨p, c, hB⟩ := h.blk
  exact log_Op hB ok.low ok.high ok.len
end Go.Proofs.Yteijpcedggkdpaa
