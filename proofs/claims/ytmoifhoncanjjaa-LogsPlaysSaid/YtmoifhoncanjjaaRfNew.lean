/-
  The reference's New: the contracts.
-/
import Derived.Test.YtmoifhoncanjjaaRfFind
namespace Go.Proofs.Ytmoifhoncanjjaa
open Go.RowKit
set_option linter.unusedSimpArgs false

theorem ref_New_arg {w : World} {m : Int} {v : Value} (hm : 1099511627776 < m) :
    Calls Try.prog 21 #[.int .u64 m, v] w fun x w' => x = .returned (.tuple #[.pointer none, .int .i64 1]) ∧ w = w' := by
  go_enter Try.func21, Try.ntmps21
  go_wp2_with fail
  go_ret2
  exact ⟨rfl, rfl⟩

theorem ref_New_full {w : World} {m : Int} {p : Option Addr} {n c : Nat} (hn : 64 < n) (hm : m ≤ 1099511627776) :
    Calls Try.prog 21 #[.int .u64 m, .slice p n c] w fun x w' => x = .returned (.tuple #[.pointer none, .int .i64 7]) ∧ w = w' := by
  go_enter Try.func21, Try.ntmps21
  go_wp2_with fail
  go_ret2
  exact ⟨rfl, rfl⟩

/-- Entries; no nil has spare places. -/
def EntsN (w : World) (S : Nat → Prop) (v : Value) (es : List Ent) : Prop := ∃ cs, Rd w S 4 v es.length cs ∧ Els (EntR (CmdN w S)) 4 cs es
theorem EntsN.rd {w : World} {S : Nat → Prop} {v : Value} {es : List Ent} (h : EntsN w S v es) : EntsRd w S v es := by
  obtain ⟨cs, ho, hE⟩ := h
  exact ⟨cs, ho, hE.imp fun c e _ ⟨s, hs', hq⟩ => ⟨s, hs', hq.1⟩⟩
theorem EntsN.keep {w w' : World} {S S' : Nat → Prop} {v : Value} {es : List Ent} (h : EntsN w S v es) (hk : ∀ k, k < w.heap.size → S k → w'.heap[k]? = w.heap[k]?) (hs : ∀ k, S k → k < w.heap.size → S' k) : EntsN w' S' v es := by
  obtain ⟨cs, ho, hE⟩ := h
  exact ⟨cs, Rd.keep ho hk hs (by decide), hE.imp fun c e _ ⟨s, hs', hq⟩ => ⟨s, hs', hq.keep hk hs⟩⟩
theorem RLog.weak {w : World} {S S' : Nat → Prop} {b : Nat} {m : Int} {es : List Ent} (h : RLog w S b m es) (hs : ∀ k, S k → k < w.heap.size → S' k) (hb : ¬ S' b) : RLog w S' b m es := by
  obtain ⟨p, c, hB, hI, -⟩ := h
  exact ⟨p, c, hB, hI.keep (fun _ _ _ => rfl) hs, hb⟩

set_option maxHeartbeats 1600000 in
theorem ref_New {w : World} {S : Nat → Prop} {m : Int} {v : Value} {es : List Ent} (h : EntsN w S v es) (hf : Fits es) (hn : es.length ≤ 64) (h0 : 0 ≤ m) (hm : m ≤ 1099511627776) :
    Calls Try.prog 21 #[.int .u64 m, v] w fun x w' => x = .returned (.tuple #[.pointer (some ⟨w.heap.size, 0, none⟩), .int .i64 0]) ∧
      RLog w' (fun k => w.heap.size + 1 ≤ k ∧ k < w'.heap.size) w.heap.size m es ∧ Below w.heap.size w w' := by
  obtain ⟨cs, hr, hE⟩ := h
  obtain ⟨p, c, rfl⟩ := Rd.slice hr
  have hX0 := (Below.refl w.heap.size w).alloc (Nat.le_refl _) (.cells #[.int .u64 m, .slice none 0 0] 58)
  have hR0 : RLog (w.alloc (.cells #[.int .u64 m, .slice none 0 0] 58)) (fun k => w.heap.size + 1 ≤ k ∧ k < (w.alloc (.cells #[.int .u64 m, .slice none 0 0] 58)).heap.size) w.heap.size m [] :=
    ⟨none, 0, Blk.new w _ _, ⟨⟨[], Rd.nil _ _ _, Els.nil _ _⟩, NilOk.nil⟩, fun h => by have := h.1; omega⟩
  have Hr := Lib.hid hr
  have HE := Lib.hid hE
  have Hf := Lib.hid hf
  have HX0 := Lib.hid hX0
  have HR0 := Lib.hid hR0
  clear hr hE hf hX0 hR0
  go_enter Try.func21, Try.ntmps21
  go_wp2_with fail
  go_loopw [7] (fun i wr => ∃ j : Nat, j ≤ es.length ∧ i = .int .i64 j ∧ RLog wr (fun k => w.heap.size + 1 ≤ k ∧ k < wr.heap.size) w.heap.size m (es.take j) ∧ Below w.heap.size w wr ∧ w.heap.size < wr.heap.size) (fun i _ => es.length - (intOf i).toNat)
  case atStart => exact ⟨0, Nat.zero_le _, rfl, HR0.out, HX0.out, by simp⟩
  case round =>
    obtain ⟨j, hj, rfl, hR, hb, hlt0⟩ := hrel
    have HR := Lib.hid hR
    have Hb := Lib.hid hb
    clear hR hb
    by_cases hlt : j < es.length
    · have hr := Hr.out
      obtain ⟨b, off, c', he, hb1, hb2, hb3, hcell⟩ := Rd.form hr (by omega)
      injection he with he1 _ he2
      subst he1; subst he2
      obtain ⟨s, hs, hq⟩ := HE.out.2 j es[j] (List.getElem?_eq_getElem hlt)
      obtain ⟨e0, e1, e2, e3⟩ := cells4 hcell hs
      have lt := lt_of_cell e0
      obtain ⟨hc, -⟩ := bcell Hb.out
      rw [← hc b _ lt] at e0 e1 e2 e3
      obtain ⟨sp, sc, rfl⟩ := Rd.slice hq.1
      have Hq := Lib.hid hq
      clear hq hc hs hcell hr
      have hlk : (es.take j).length = j := by rw [List.length_take]; omega
      have Hlk := Lib.hid hlk
      clear hlk
      go_wp2_with fail
      refine (ref_Append (T := S) (e := es[j]) HR.out h0 (by omega) (by rw [Hlk.out]; omega) (Hq.out.keep (fun k hk _ => Hb.out.block k hk) (fun _ h _ => h)) (Hf.out _ (List.getElem_mem _))).mono ?_
      rintro x w2 ⟨rfl, hR2, hX2⟩
      rw [← take_snoc es j hlt] at hR2
      have hb2 : Below w.heap.size w w2 := Ext.from Hb.out hX2 (by rintro k rfl; exact Nat.le_refl _)
      have hz2 := hX2.size
      have HR2 := Lib.hid (hR2.weak (S' := fun k => w.heap.size + 1 ≤ k ∧ k < w2.heap.size) (fun k hk hk2 => ⟨by rcases hk with hk | hk <;> omega, hk2⟩) (by intro h; omega))
      have Hb2 := Lib.hid hb2
      clear hR2 hX2 hb2
      go_wp2_with fail
      go_roundw
      case rel => exact ⟨j + 1, by omega, by go_num, HR2.out, Hb2.out, by omega⟩
      case measure => simp [intOf]; omega
    · obtain rfl : j = es.length := by omega
      have h := HR.out
      rw [List.take_length] at h
      have Hz := Lib.hid h
      clear h
      go_wp2_with fail
      go_ret2
      exact ⟨rfl, Hz.out, Hb.out⟩
end Go.Proofs.Ytmoifhoncanjjaa
